import Derived.Test.YtahflobpopclpaaBe3
set_option linter.unusedVariables false
set_option linter.unusedSimpArgs false
namespace Go.Ab
open Go Go.RowKit Go.Proofs Fac
set_option linter.unusedVariables false
set_option linter.unusedSimpArgs false
set_option maxRecDepth 4000
set_option maxHeartbeats 1000000


def M.o2i : Option Nat → Int
  | some i => i
  | none => -1
def M.rule (t : Town) (p : List Int) : Nat → Int
  | 0 => M.o2i (M.first p.length (M.shared p))
  | 1 => M.o2i (M.first p.length fun i => M.gone t (M.at' p i))
  | 2 => M.o2i (M.first p.length (M.unwished t p))
  | 3 => M.o2i (M.first p.length (M.untaught t p))
  | _ => M.o2i (M.first t.kin.length (M.apart t p))
theorem M.o2i_neg {o : Option Nat} (h : M.o2i o < 0) : o = none := by
  cases o with
  | none => rfl
  | some i => simp only [M.o2i] at h; omega
theorem M.o2i_some {o : Option Nat} (h : 0 ≤ M.o2i o) : ∃ i : Nat, o = some i ∧ M.o2i o = i := by
  cases o with
  | none => simp [M.o2i] at h
  | some i => exact ⟨i, rfl, rfl⟩
theorem M.fault_rule (t : Town) (p : List Int) {k : Nat} (hk : k < 5) (hb : ∀ j, j < k → M.rule t p j < 0) (h : 0 ≤ M.rule t p k) : M.fault t p = (2 + (k : Int), M.rule t p k) := by
  unfold M.fault
  rcases k with _ | _ | _ | _ | _ | k
  · obtain ⟨i, h1, h2⟩ := M.o2i_some h
    rw [h1]; simp only [M.rule, h2]; rfl
  · have b0 := M.o2i_neg (hb 0 (by omega))
    obtain ⟨i, h1, h2⟩ := M.o2i_some h
    rw [b0, h1]; simp only [M.rule, h2]; rfl
  · have b0 := M.o2i_neg (hb 0 (by omega))
    have b1 := M.o2i_neg (hb 1 (by omega))
    obtain ⟨i, h1, h2⟩ := M.o2i_some h
    rw [b0, b1, h1]; simp only [M.rule, h2]; rfl
  · have b0 := M.o2i_neg (hb 0 (by omega))
    have b1 := M.o2i_neg (hb 1 (by omega))
    have b2 := M.o2i_neg (hb 2 (by omega))
    obtain ⟨i, h1, h2⟩ := M.o2i_some h
    rw [b0, b1, b2, h1]; simp only [M.rule, h2]; rfl
  · have b0 := M.o2i_neg (hb 0 (by omega))
    have b1 := M.o2i_neg (hb 1 (by omega))
    have b2 := M.o2i_neg (hb 2 (by omega))
    have b3 := M.o2i_neg (hb 3 (by omega))
    obtain ⟨i, h1, h2⟩ := M.o2i_some h
    rw [b0, b1, b2, b3, h1]; simp only [M.rule, h2]; rfl
  · omega
theorem M.fault_none (t : Town) (p : List Int) (hb : ∀ j, j < 5 → M.rule t p j < 0) : M.fault t p = (1, 0) := by
  unfold M.fault
  have b0 := M.o2i_neg (hb 0 (by omega))
  have b1 := M.o2i_neg (hb 1 (by omega))
  have b2 := M.o2i_neg (hb 2 (by omega))
  have b3 := M.o2i_neg (hb 3 (by omega))
  have b4 := M.o2i_neg (hb 4 (by omega))
  rw [b0, b1, b2, b3, b4]
theorem M.rule_call {t : Town} {p : List Int} (ok : M.Ok t) (hp : M.plan t p = true) (hsl : t.schools.length ≤ 9223372036854775807) (hkl : t.kin.length ≤ 9223372036854775807) {k : Nat} (hk : k < 5) : Ret Try.prog (77 + k) [.agg (cW t p)] (.int .i64 (M.rule t p k)) := by
  rcases k with _ | _ | _ | _ | _ | k
  · exact mv_shared t p
  · exact mv_gone t p ok hp
  · exact mv_unwished t p ok hp
  · exact mv_school t p ok hp hsl
  · exact mv_apart t p ok hp hkl
  · omega
theorem M.rule_fn {k : Nat} (hk : k < 5) : ∃ fn, Try.prog.funcs[77 + k]? = some fn ∧ fn.body.isSome = true ∧ (fn.name == "runtime.NumGoroutine") = false := by
  rcases k with _ | _ | _ | _ | _ | k
  · exact ⟨_, Try.func77, rfl, rfl⟩
  · exact ⟨_, Try.func78, rfl, rfl⟩
  · exact ⟨_, Try.func79, rfl, rfl⟩
  · exact ⟨_, Try.func80, rfl, rfl⟩
  · exact ⟨_, Try.func81, rfl, rfl⟩
  · omega
theorem M.plan_first {t : Town} {p : List Int} (h : p.length = t.houses.length) : (!(M.first p.length fun k => !M.lot t (M.at' p k)).isSome) = M.plan t p := by
  rw [Bool.eq_iff_iff, M.plan_iff]
  simp only [M.first, Bool.not_eq_true', Option.isSome_eq_false_iff, Option.isNone_iff_eq_none, List.find?_eq_none, List.mem_range, Bool.not_eq_false, Bool.not_not, h, true_and]
theorem M.plan_no {t : Town} {p : List Int} (h : ¬ p.length = t.houses.length) : M.plan t p = false := by
  rw [Bool.eq_false_iff]
  intro hp
  exact h (M.plan_iff.1 hp).1
def M.sorted (l : List Int) : Bool := decide (∀ j, j < l.length → 0 < j → M.at' l (j - 1) ≤ M.at' l j)
theorem M.sorted_false {l : List Int} {i : Int} (h1 : i.toNat < l.length) (h2 : (i - 1).toNat < l.length) (h3 : 0 < i) (h : l[i.toNat] < l[(i - 1).toNat]) : M.sorted l = false := by
  rw [M.sorted, decide_eq_false_iff_not]
  intro hs
  have := hs i.toNat h1 (by omega)
  have e : i.toNat - 1 = (i - 1).toNat := by omega
  rw [e, M.at_get h1, M.at_get h2] at this
  omega
theorem M.sorted_true {l : List Int} (h : ∀ j, 0 < j → j < l.length → M.at' l (j - 1) ≤ M.at' l j) : M.sorted l = true := by
  rw [M.sorted, decide_eq_true_eq]
  exact fun j h1 h2 => h j h2 h1
theorem M.sorted_step {l : List Int} {i : Int} (h1 : i.toNat < l.length) (h2 : (i - 1).toNat < l.length) (h3 : 0 < i) (h : ¬ l[i.toNat] < l[(i - 1).toNat]) (hj : (-1 ≤ i ∧ i < l.length) ∧ ∀ j : Nat, i < j → j < l.length → M.at' l (j - 1) ≤ M.at' l j) : (-1 ≤ i - 1 ∧ i - 1 < l.length) ∧ ∀ j : Nat, i - 1 < j → j < l.length → M.at' l (j - 1) ≤ M.at' l j := by
  refine ⟨⟨by omega, by omega⟩, fun j k1 k2 => ?_⟩
  by_cases hji : i < j
  · exact hj.2 j hji k2
  · have e1 : j = i.toNat := by omega
    have e : i.toNat - 1 = (i - 1).toNat := by omega
    subst e1
    rw [e, M.at_get h1, M.at_get h2]
    omega
def rules (w : V) : List V := [.fn 77 [w] [], .fn 78 [w] [], .fn 79 [w] [], .fn 80 [w] [], .fn 81 [w] []]
theorem rules_get (w : V) {k : Nat} (hk : k < 5) : indexOfV Try.prog 105 (.agg (rules w)) (.int .i64 (k : Int)) = some (.fn (77 + k) [w] []) := by
  rcases k with _ | _ | _ | _ | _ | k
  · rfl
  · rfl
  · rfl
  · rfl
  · rfl
  · omega

theorem mv_fault (t : Town) (p : List Int) (ok : M.Ok t) (hp : M.plan t p = true) (hsl : t.schools.length ≤ 9223372036854775807) (hkl : t.kin.length ≤ 9223372036854775807) : Ret Try.prog 48 [.agg (cW t p)] (.agg [.int .i64 (M.fault t p).1, .int .i64 (M.fault t p).2]) := by
  apply Ret_fin (fn := Try.f48) Try.func48 rfl
  apply T_seq
  apply T_r F
  · (simp only [go_sem, Try.ntmps48, cW_eq]) <;> exact rfl
  apply K_seq
  apply T_seq
  apply T_seq
  apply T_wL F [0, 1, 2, 3, 4, 5, 6, 7, 8, 9, 10, 11] rfl
  apply W_pre [0, 1, 2, 3] [4, 5, 6, 7, 8, 9, 10, 11]
  · (simp only [go_sem, Try.ntmps48, cW_eq]) <;> exact rfl
  apply W_pre [4, 5, 6, 7] [8, 9, 10, 11]
  · (simp only [go_sem, Try.ntmps48, cW_eq]) <;> exact rfl
  apply W_run
  · (simp only [go_sem, Try.ntmps48, cW_eq]) <;> exact rfl
  apply W_nil
  apply K_seq
  apply T_block
  apply T_lp (α := Nat) [false, false, true, false, false, false, false, false, false, false, false, false, false, false, false, false, true, true, false, false, false, false, false, false, false, false, false, false, false, false, false] (fun k => (⟨[.undef, .undef, .ptr 1 0, .undef, .undef, .undef, .undef, .undef, .undef, .undef, .undef, .undef, .undef, .undef, .undef, .undef, .agg [.fn 77 [.agg (cW t p)] [], .fn 78 [.agg (cW t p)] [], .fn 79 [.agg (cW t p)] [], .fn 80 [.agg (cW t p)] [], .fn 81 [.agg (cW t p)] []], .int .i64 (k : Int), .undef, .undef, .undef, .undef, .undef, .undef, .undef, .undef, .undef, .undef, .undef, .undef, .undef], [.box 69 (cW t p), .box 35 [.int .i64 0, .int .i64 0]]⟩ : St)) (fun k => k ≤ 5 ∧ ∀ j, j < k → M.rule t p j < 0) (fun k => 5 - k) (0)
  · (simp only [go_sem, Try.ntmps48, cW_eq]) <;> exact rfl
  · simp
  · rintro k ⟨hk, hj⟩
    apply T_seq
    apply T_r F
    · (simp only [go_sem, Try.ntmps48, cW_eq]) <;> exact rfl
    apply K_seq
    apply T_seq
    apply T_if
    · (simp only [go_sem, Try.ntmps48, cW_eq]) <;> exact rfl
    · intro bh0t
      have h0t := bh0t
      try simp only [CS] at h0t
      try simp only [BS] at bh0t
      try exact absurd bh0t (by decide)
      all_goals (
  have hk5 : k < 5 := by omega
  have hb : k < 9223372036854775807 := by omega
  have hget := rules_get (.agg (cW t p)) hk5
  simp only [rules, cW_eq] at hget
  apply T_skip
  apply K_seq
  apply T_seq
  apply T_block
  apply T_seq
  apply T_r F
  · (simp only [go_sem, Try.ntmps48, cW_eq, bh0t, h0t, hb, hget]) <;> exact rfl
  apply K_seq
  apply T_seq
  apply T_wL F [0, 1, 2] rfl
  apply W_pre [0] [1, 2]
  · (simp only [go_sem, Try.ntmps48, cW_eq, bh0t, h0t, hb, hget]) <;> exact rfl
  apply W_callS -- call 0
  · (simp only [go_sem, Try.ntmps48, cW_eq, bh0t, h0t, hb, hget]) <;> exact rfl
  · (simp only [go_sem, Try.ntmps48, cW_eq, bh0t, h0t, hb, hget]) <;> exact rfl
  · exact rfl
  · (simp only [go_sem, Try.ntmps48, cW_eq, bh0t, h0t, hb, hget]) <;> exact rfl
  · (simp only [go_sem, Try.ntmps48, cW_eq, bh0t, h0t, hb, hget]) <;> exact rfl
  · exact M.rule_fn hk5
  · exact (M.rule_call ok hp hsl hkl hk5).shared (by (simp only [go_sem, cW_eq]) <;> exact rfl) (by (simp only [go_sem, cW_eq, reduceIte, Nat.reduceLeDiff]) <;> exact rfl)
  apply W_run
  · (simp only [go_sem, Try.ntmps48, cW_eq, bh0t, h0t, hb, hget]) <;> exact rfl
  apply W_nil
  apply K_seq
  apply T_seq
  apply T_r F
  · (simp only [go_sem, Try.ntmps48, cW_eq, bh0t, h0t, hb, hget]) <;> exact rfl
  apply K_seq
  apply T_if
  · (simp only [go_sem, Try.ntmps48, cW_eq, bh0t, h0t, hb, hget]) <;> exact rfl
  · intro bh1t
    have h1t := bh1t
    try simp only [CS] at h1t
    try simp only [BS] at bh1t
    try exact absurd bh1t (by decide)
    all_goals (
  apply T_seq
  apply T_r F
  · (simp only [go_sem, Try.ntmps48, cW_eq, bh0t, h0t, hb, hget, bh1t]) <;> exact rfl
  apply K_seq
  apply T_ret
  apply K_blkR
  apply K_seqR
  apply K_lpR
  apply K_blkR
  apply K_seqR
  apply fin_ret
  · (simp only [go_sem, Try.ntmps48, cW_eq, bh0t, h0t, hb, hget, bh1t, Try.f48]) <;> exact rfl
  -- leaf 0 (ret)
  simp only [go_sem, Try.ntmps48, cW_eq, bh0t, h0t, hb, hget, bh1t, V.bool.injEq, V.int.injEq, true_and]
  first | rw [M.fault_rule t p hk5 hj h1t, wrap_id (by omega) (by omega)] | rw [M.fault_none t p (fun j hj5 => hj j (by omega))])
  · intro bh1f
    have h1f := bh1f
    try simp only [CS] at h1f
    try simp only [BS] at bh1f
    try exact absurd bh1f (by decide)
    all_goals (
  apply T_skip
  apply K_blk
  apply K_seq
  apply T_r F
  · (simp only [go_sem, Try.ntmps48, cW_eq, bh0t, h0t, hb, hget, bh1f]) <;> exact rfl
  refine K_lp (k + 1) ?_ ?_
  · (simp only [go_sem, Try.ntmps48, cW_eq, bh0t, h0t, hb, hget, bh1f]) <;> exact rfl
  -- leaf 1 (loop0)
  grind))
    · intro bh0f
      have h0f := bh0f
      try simp only [CS] at h0f
      try simp only [BS] at bh0f
      try exact absurd bh0f (by decide)
      all_goals (
  apply T_exit
  apply K_seqE
  apply K_lpE
  apply K_blkE
  apply K_seq
  apply T_seq
  apply T_r F
  · (simp only [go_sem, Try.ntmps48, cW_eq, bh0f]) <;> exact rfl
  apply K_seq
  apply T_ret
  apply fin_ret
  · (simp only [go_sem, Try.ntmps48, cW_eq, bh0f, Try.f48]) <;> exact rfl
  -- leaf 2 (ret)
  simp only [go_sem, Try.ntmps48, cW_eq, bh0f, V.bool.injEq, V.int.injEq, true_and]
  first | rw [M.fault_rule t p hk5 hj h1t, wrap_id (by omega) (by omega)] | rw [M.fault_none t p (fun j hj5 => hj j (by omega))])

theorem mv_planned1 (t : Town) (p : List Int) (h : List AObj) (i : Nat) (hc : Closed h) (hi : h[i]? = some (.box 69 (cW t p))) (hw : t.walk.length ≤ 9223372036854775807) (n : Int) : RetS Try.prog 76 [.int .i64 n, .ptr i 0] h (.bool (!M.lot t n)) h := by
  have hwr : IntKind.i64.wrap ((t.walk.length : Int) - 1) = (t.walk.length : Int) - 1 := wrap_id (by omega) (by omega)
  apply RetS_fin (fn := Try.f76) Try.func76 rfl (by simp [V.all]) hc
  apply T_seq
  apply T_r F
  · (simp only [go_sem, Try.ntmps76, cW_eq, hi, hwr]) <;> exact rfl
  apply K_seq
  apply T_seq
  apply T_wL F [0, 1, 2, 3, 4, 5, 6, 7, 8] rfl
  apply W_pre [0, 1, 2, 3, 4, 5] [6, 7, 8]
  · (simp only [go_sem, Try.ntmps76, cW_eq, hi, hwr]) <;> exact rfl
  apply W_call -- call 0 of function 70
  · (simp only [go_sem, Try.ntmps76, cW_eq, hi, hwr]) <;> exact rfl
  · (simp only [go_sem, Try.ntmps76, cW_eq, hi, hwr]) <;> exact rfl
  · exact rfl
  · (simp only [go_sem, Try.ntmps76, cW_eq, hi, hwr]) <;> exact rfl
  · (simp only [go_sem, Try.ntmps76, cW_eq, hi, hwr]) <;> exact rfl
  · exact ⟨_, Try.func70, rfl, rfl⟩
  · (simp only [go_sem, Try.ntmps76, cW_eq, hi, hwr]) <;> exact rfl
  · (simp only [go_sem, Try.ntmps76, cW_eq, hi, hwr]) <;> exact rfl
  · exact mv_in _ _ _
  apply W_run
  · (simp only [go_sem, Try.ntmps76, cW_eq, hi, hwr]) <;> exact rfl
  apply W_nil
  apply K_seq
  apply T_ret
  apply finS_ret
  · (simp only [go_sem, Try.ntmps76, cW_eq, hi, hwr, Try.f76]) <;> exact rfl
  · simp
  · simp
  -- leaf 0 (ret)
  simp only [go_sem, Try.ntmps76, cW_eq, hi, hwr, V.bool.injEq, V.int.injEq, true_and]
  simp [M.lot]

theorem mv_planned (t : Town) (p : List Int) : Ret Try.prog 47 [.agg (cW t p)] (.bool (M.plan t p)) := by
  refine Ret.of_fits fun hfits => ?_
  simp only [V.fits, V.fitsL, V.fitsR, cW_fits] at hfits
  have hwl := hfits.1.1.walk
  apply Ret_fin (fn := Try.f47) Try.func47 rfl
  apply T_seq
  apply T_r F
  · (simp only [go_sem, Try.ntmps47, cW_eq]) <;> exact rfl
  apply K_seq
  apply T_seq
  apply T_wL F [0, 1, 2, 3, 4, 5, 6, 7, 8, 9, 10, 11, 12, 13, 14, 15] rfl
  apply W_pre [0, 1, 2, 3] [4, 5, 6, 7, 8, 9, 10, 11, 12, 13, 14, 15]
  · (simp only [go_sem, Try.ntmps47, cW_eq]) <;> exact rfl
  apply W_pre [4, 5, 6, 7, 8] [9, 10, 11, 12, 13, 14, 15]
  · (simp only [go_sem, Try.ntmps47, cW_eq]) <;> exact rfl
  apply W_guard
  · (simp only [go_sem, Try.ntmps47, cW_eq]) <;> exact rfl
  · (simp only [go_sem, Try.ntmps47, cW_eq]) <;> exact rfl
  · intro bg0t
    have g0t := bg0t
    try simp only [CS] at g0t
    try simp only [BS] at bg0t
    try exact absurd bg0t (by decide)
    all_goals (
  apply W_pre [9, 10, 11] [12, 13, 14, 15]
  · (simp only [go_sem, Try.ntmps47, cW_eq, bg0t]) <;> exact rfl
  apply W_callS -- call 0
  · (simp only [go_sem, Try.ntmps47, cW_eq, bg0t]) <;> exact rfl
  · (simp only [go_sem, Try.ntmps47, cW_eq, bg0t]) <;> exact rfl
  · exact rfl
  · (simp only [go_sem, Try.ntmps47, cW_eq, bg0t]) <;> exact rfl
  · (simp only [go_sem, Try.ntmps47, cW_eq, bg0t]) <;> exact rfl
  · exact ⟨_, Try.func75, rfl, rfl⟩
  · exact sl_containsFunc p [.box 69 (cW t p)] 76 [] [.ptr 0 0] (fun k => !M.lot t (M.at' p k)) (closed_W t p) ⟨_, Try.func76, rfl, rfl⟩ hfits.1.2 (fun k hk => by
    have := mv_planned1 t p [.box 69 (cW t p)] 0 (closed_W t p) rfl hwl p[k]
    rw [M.at_get hk]
    exact this)
  apply W_run
  · (simp only [go_sem, Try.ntmps47, cW_eq, bg0t]) <;> exact rfl
  apply W_nil
  apply K_seq
  apply T_ret
  apply fin_ret
  · (simp only [go_sem, Try.ntmps47, cW_eq, bg0t, Try.f47]) <;> exact rfl
  -- leaf 0 (ret)
  simp only [go_sem, Try.ntmps47, cW_eq, bg0t, V.bool.injEq, V.int.injEq, true_and]
  first | exact M.plan_first g0t | exact (M.plan_no g0f).symm)
  · intro bg0f
    have g0f := bg0f
    try simp only [CS] at g0f
    try simp only [BS] at bg0f
    try exact absurd bg0f (by decide)
    all_goals (
  apply W_pre [9, 10, 11, 12] [13, 14, 15]
  · (simp only [go_sem, Try.ntmps47, cW_eq, bg0f]) <;> exact rfl
  apply W_run
  · (simp only [go_sem, Try.ntmps47, cW_eq, bg0f]) <;> exact rfl
  apply W_nil
  apply K_seq
  apply T_ret
  apply fin_ret
  · (simp only [go_sem, Try.ntmps47, cW_eq, bg0f, Try.f47]) <;> exact rfl
  -- leaf 1 (ret)
  simp only [go_sem, Try.ntmps47, cW_eq, bg0f, V.bool.injEq, V.int.injEq, true_and]
  first | exact M.plan_first g0t | exact (M.plan_no g0f).symm)

theorem sl_isNaN (n : Int) : Ret Try.prog 101 [.int .i64 n] (.bool false) := by
  apply Ret_fin (fn := Try.f101) Try.func101 rfl
  apply T_seq
  apply T_r F
  · (simp only [go_sem, Try.ntmps101]) <;> exact rfl
  apply K_seq
  apply T_seq
  apply T_r F
  · (simp only [go_sem, Try.ntmps101]) <;> exact rfl
  apply K_seq
  apply T_ret
  apply fin_ret
  · (simp only [go_sem, Try.ntmps101, Try.f101]) <;> exact rfl
  -- leaf 0 (ret)
  simp only [go_sem, Try.ntmps101, V.bool.injEq, V.int.injEq, true_and]
  try simp

theorem sl_less (a b : Int) : Ret Try.prog 87 [.int .i64 a, .int .i64 b] (.bool (decide (a < b))) := by
  apply Ret_fin (fn := Try.f87) Try.func87 rfl
  apply T_seq
  apply T_r F
  · (simp only [go_sem, Try.ntmps87]) <;> exact rfl
  apply K_seq
  apply T_seq
  apply T_wL F [0, 1, 2, 3, 4, 5, 6, 7, 8, 9, 10, 11, 12] rfl
  apply W_pre [0] [1, 2, 3, 4, 5, 6, 7, 8, 9, 10, 11, 12]
  · (simp only [go_sem, Try.ntmps87]) <;> exact rfl
  apply W_call -- call 0 of function 101
  · (simp only [go_sem, Try.ntmps87]) <;> exact rfl
  · (simp only [go_sem, Try.ntmps87]) <;> exact rfl
  · exact rfl
  · (simp only [go_sem, Try.ntmps87]) <;> exact rfl
  · (simp only [go_sem, Try.ntmps87]) <;> exact rfl
  · exact ⟨_, Try.func101, rfl, rfl⟩
  · (simp only [go_sem, Try.ntmps87]) <;> exact rfl
  · (simp only [go_sem, Try.ntmps87]) <;> exact rfl
  · exact sl_isNaN _
  apply W_pre [2] [3, 4, 5, 6, 7, 8, 9, 10, 11, 12]
  · (simp only [go_sem, Try.ntmps87]) <;> exact rfl
  apply W_guard
  · (simp only [go_sem, Try.ntmps87]) <;> exact rfl
  · (simp only [go_sem, Try.ntmps87]) <;> exact rfl
  · intro bg0t
    have g0t := bg0t
    try simp only [CS] at g0t
    try simp only [BS] at bg0t
    try exact absurd bg0t (by decide)
    all_goals (
  apply W_pre [3] [4, 5, 6, 7, 8, 9, 10, 11, 12]
  · (simp only [go_sem, Try.ntmps87, bg0t]) <;> exact rfl
  apply W_call -- call 1 of function 101
  · (simp only [go_sem, Try.ntmps87, bg0t]) <;> exact rfl
  · (simp only [go_sem, Try.ntmps87, bg0t]) <;> exact rfl
  · exact rfl
  · (simp only [go_sem, Try.ntmps87, bg0t]) <;> exact rfl
  · (simp only [go_sem, Try.ntmps87, bg0t]) <;> exact rfl
  · exact ⟨_, Try.func101, rfl, rfl⟩
  · (simp only [go_sem, Try.ntmps87, bg0t]) <;> exact rfl
  · (simp only [go_sem, Try.ntmps87, bg0t]) <;> exact rfl
  · exact sl_isNaN _
  apply W_pre [5, 6, 7] [8, 9, 10, 11, 12]
  · (simp only [go_sem, Try.ntmps87, bg0t]) <;> exact rfl
  apply W_guard
  · (simp only [go_sem, Try.ntmps87, bg0t]) <;> exact rfl
  · (simp only [go_sem, Try.ntmps87, bg0t]) <;> exact rfl
  · intro bg1t
    have g1t := bg1t
    try simp only [CS] at g1t
    try simp only [BS] at bg1t
    try exact absurd bg1t (by decide)
    all_goals (
  apply W_run
  · (simp only [go_sem, Try.ntmps87, bg0t, bg1t]) <;> exact rfl
  apply W_nil
  apply K_seq
  apply T_ret
  apply fin_ret
  · (simp only [go_sem, Try.ntmps87, bg0t, bg1t, Try.f87]) <;> exact rfl
  -- leaf 0 (ret)
  simp only [go_sem, Try.ntmps87, bg0t, bg1t, V.bool.injEq, V.int.injEq, true_and]
  all_goals rfl)
  · intro bg1f
    have g1f := bg1f
    try simp only [CS] at g1f
    try simp only [BS] at bg1f
    try exact absurd bg1f (by decide)
    all_goals (
  apply W_run
  · (simp only [go_sem, Try.ntmps87, bg0t, bg1f]) <;> exact rfl
  apply W_nil
  apply K_seq
  apply T_ret
  apply fin_ret
  · (simp only [go_sem, Try.ntmps87, bg0t, bg1f, Try.f87]) <;> exact rfl
  -- leaf 1 (ret)
  simp only [go_sem, Try.ntmps87, bg0t, bg1f, V.bool.injEq, V.int.injEq, true_and]
  all_goals rfl))
  · intro bg0f
    have g0f := bg0f
    try simp only [CS] at g0f
    try simp only [BS] at bg0f
    try exact absurd bg0f (by decide)
    all_goals (
  apply W_pre [3, 4, 5, 6] [7, 8, 9, 10, 11, 12]
  · (simp only [go_sem, Try.ntmps87, bg0f]) <;> exact rfl
  apply W_run
  · (simp only [go_sem, Try.ntmps87, bg0f]) <;> exact rfl
  apply W_nil
  apply K_seq
  apply T_ret
  apply fin_ret
  · (simp only [go_sem, Try.ntmps87, bg0f, Try.f87]) <;> exact rfl
  -- leaf 2 (ret)
  simp only [go_sem, Try.ntmps87, bg0f, V.bool.injEq, V.int.injEq, true_and]
  all_goals rfl)

theorem sl_sorted (l : List Int) : Ret Try.prog 72 [.sl 1 (rI l)] (.bool (M.sorted l)) := by
  refine Ret.of_fits fun hfits => ?_
  simp only [V.fits, V.fitsL, V.fitsR, rI_length] at hfits
  have hl := hfits.1.1
  have hw0 : IntKind.i64.wrap ((l.length : Int) - 1) = (l.length : Int) - 1 := wrap_id (by omega) (by omega)
  apply Ret_fin (fn := Try.f72) Try.func72 rfl
  apply T_seq
  apply T_r F
  · (simp only [go_sem, Try.ntmps72, hw0]) <;> exact rfl
  apply K_seq
  apply T_seq
  apply T_seq
  apply T_r F
  · (simp only [go_sem, Try.ntmps72, hw0]) <;> exact rfl
  apply K_seq
  apply T_block
  apply T_lp (α := Int) [true, false, false, true, false, false, false, false, false, false, false, false, false, false, false, false, false, false, false, false, false] (fun i => (⟨[.sl 1 (rI l), .undef, .undef, .int .i64 i, .undef, .undef, .undef, .undef, .undef, .undef, .undef, .undef, .undef, .undef, .undef, .undef, .undef, .undef, .undef, .undef, .undef], []⟩ : St)) (fun i => (-1 ≤ i ∧ i < l.length) ∧ ∀ j : Nat, i < j → j < l.length → M.at' l (j - 1) ≤ M.at' l j) (fun i => i.toNat) ((l.length : Int) - 1)
  · (simp only [go_sem, Try.ntmps72, hw0]) <;> exact rfl
  · refine ⟨⟨by omega, by omega⟩, fun j h1 h2 => by omega⟩
  · rintro i ⟨⟨hi1, hi2⟩, hj⟩
    apply T_seq
    apply T_seq
    apply T_r F
    · (simp only [go_sem, Try.ntmps72, hw0]) <;> exact rfl
    apply K_seq
    apply T_if
    · (simp only [go_sem, Try.ntmps72, hw0]) <;> exact rfl
    · intro bh0t
      have h0t := bh0t
      try simp only [CS] at h0t
      try simp only [BS] at bh0t
      try exact absurd bh0t (by decide)
      all_goals (
  have hi3 : 0 ≤ i := by omega
  have hi4 : i.toNat < l.length := by omega
  have hi5 : 0 ≤ i - 1 := by omega
  have hi6 : (i - 1).toNat < l.length := by omega
  have hw : IntKind.i64.wrap (i - 1) = i - 1 := wrap_id (by omega) (by omega)
  apply T_skip
  apply K_seq
  apply T_seq
  apply T_block
  apply T_seq
  apply T_qL F [0, 1, 2, 3, 4, 5, 6, 7, 8, 9] rfl (by kernel_rfl)
  apply Q_pre [0, 1, 2, 3] [4, 5, 6, 7, 8, 9]
  · (simp only [go_sem, Try.ntmps72, hw0, bh0t, h0t, hi3, hi4, hi5, hi6, hw, rI_get hi4, rI_get hi6]) <;> exact rfl
  apply Q_pre [4, 5, 6, 7, 8] [9]
  · (simp only [go_sem, Try.ntmps72, hw0, bh0t, h0t, hi3, hi4, hi5, hi6, hw, rI_get hi4, rI_get hi6]) <;> exact rfl
  apply Q_call -- call 0 of function 87
  · (simp only [go_sem, Try.ntmps72, hw0, bh0t, h0t, hi3, hi4, hi5, hi6, hw, rI_get hi4, rI_get hi6]) <;> exact rfl
  · (simp only [go_sem, Try.ntmps72, hw0, bh0t, h0t, hi3, hi4, hi5, hi6, hw, rI_get hi4, rI_get hi6]) <;> exact rfl
  · exact rfl
  · (simp only [go_sem, Try.ntmps72, hw0, bh0t, h0t, hi3, hi4, hi5, hi6, hw, rI_get hi4, rI_get hi6]) <;> exact rfl
  · (simp only [go_sem, Try.ntmps72, hw0, bh0t, h0t, hi3, hi4, hi5, hi6, hw, rI_get hi4, rI_get hi6]) <;> exact rfl
  · exact ⟨_, Try.func87, rfl, rfl⟩
  · (simp only [go_sem, Try.ntmps72, hw0, bh0t, h0t, hi3, hi4, hi5, hi6, hw, rI_get hi4, rI_get hi6]) <;> exact rfl
  · exact sl_less _ _
  apply Q_run
  · (simp only [go_sem, Try.ntmps72, hw0, bh0t, h0t, hi3, hi4, hi5, hi6, hw, rI_get hi4, rI_get hi6]) <;> exact rfl
  apply Q_nil
  apply K_seq
  apply T_if
  · (simp only [go_sem, Try.ntmps72, hw0, bh0t, h0t, hi3, hi4, hi5, hi6, hw, rI_get hi4, rI_get hi6]) <;> exact rfl
  · intro bh1t
    have h1t := bh1t
    try simp only [CS] at h1t
    try simp only [BS] at bh1t
    try exact absurd bh1t (by decide)
    all_goals (
  apply T_seq
  apply T_r F
  · (simp only [go_sem, Try.ntmps72, hw0, bh0t, h0t, hi3, hi4, hi5, hi6, hw, rI_get hi4, rI_get hi6, bh1t]) <;> exact rfl
  apply K_seq
  apply T_ret
  apply K_blkR
  apply K_seqR
  apply K_lpR
  apply K_blkR
  apply K_seqR
  apply fin_ret
  · (simp only [go_sem, Try.ntmps72, hw0, bh0t, h0t, hi3, hi4, hi5, hi6, hw, rI_get hi4, rI_get hi6, bh1t, Try.f72]) <;> exact rfl
  -- leaf 0 (ret)
  simp only [go_sem, Try.ntmps72, hw0, bh0t, h0t, hi3, hi4, hi5, hi6, hw, rI_get hi4, rI_get hi6, bh1t, V.bool.injEq, V.int.injEq, true_and]
  first | exact (M.sorted_false hi4 hi6 (by omega) (of_decide_eq_true bh1t)).symm | exact (M.sorted_true fun j h1 h2 => hj j (by omega) h2).symm)
  · intro bh1f
    have h1f := bh1f
    try simp only [CS] at h1f
    try simp only [BS] at bh1f
    try exact absurd bh1f (by decide)
    all_goals (
  apply T_skip
  apply K_blk
  apply K_seq
  apply T_r F
  · (simp only [go_sem, Try.ntmps72, hw0, bh0t, h0t, hi3, hi4, hi5, hi6, hw, rI_get hi4, rI_get hi6, bh1f]) <;> exact rfl
  refine K_lp (i - 1) ?_ ?_
  · (simp only [go_sem, Try.ntmps72, hw0, bh0t, h0t, hi3, hi4, hi5, hi6, hw, rI_get hi4, rI_get hi6, bh1f]) <;> exact rfl
  -- leaf 1 (loop0)
  exact ⟨M.sorted_step hi4 hi6 (by omega) (of_decide_eq_false bh1f) ⟨⟨hi1, hi2⟩, hj⟩, by omega⟩))
    · intro bh0f
      have h0f := bh0f
      try simp only [CS] at h0f
      try simp only [BS] at bh0f
      try exact absurd bh0f (by decide)
      all_goals (
  apply T_exit
  apply K_seqE
  apply K_lpE
  apply K_blkE
  apply K_seq
  apply T_seq
  apply T_r F
  · (simp only [go_sem, Try.ntmps72, hw0, bh0f]) <;> exact rfl
  apply K_seq
  apply T_ret
  apply fin_ret
  · (simp only [go_sem, Try.ntmps72, hw0, bh0f, Try.f72]) <;> exact rfl
  -- leaf 2 (ret)
  simp only [go_sem, Try.ntmps72, hw0, bh0f, V.bool.injEq, V.int.injEq, true_and]
  first | exact (M.sorted_false hi4 hi6 (by omega) (of_decide_eq_true bh1t)).symm | exact (M.sorted_true fun j h1 h2 => hj j (by omega) h2).symm)

end Go.Ab
namespace Go.Ab
open Go Go.RowKit Go.Proofs Fac
set_option linter.unusedVariables false
set_option linter.unusedSimpArgs false
set_option maxRecDepth 4000
set_option maxHeartbeats 1000000



def M.kinB (t : Town) (a b : Int) : Bool := !(!M.inr a 0 ((t.houses.length : Int) - 1) || (!M.inr b 0 ((t.houses.length : Int) - 1) || a == b))
def M.RowOk (t : Town) (a : Nat) : Prop := (M.row t a).length = t.walk.length ∧ ∀ b, b < t.walk.length → M.Cell t a b ∧ (M.row t b).length = t.walk.length
theorem M.kinB_iff {t : Town} {k : Nat} (hk : k < t.kin.length) : M.kinB t t.kin[k].1 t.kin[k].2 = true ↔ M.KinOk t k := by
  simp only [M.kinB, M.KinOk, M.kn_get hk, M.house, Bool.not_eq_true', Bool.or_eq_false_iff, Bool.not_eq_false', beq_eq_false_iff_ne, ne_eq]
theorem M.different_iff {l : List Int} {n : Int} : M.different l n = true ↔ ∀ i, i < l.length → M.inr (M.at' l i) 0 (n - 1) = true ∧ M.shared l i = false := by
  simp only [M.different, List.all_eq_true, List.mem_range, Bool.and_eq_true, Bool.not_eq_true']
theorem M.shared_iff {l : List Int} {i : Nat} (hi : i < l.length) : M.shared l i = false ↔ ∀ k, k < i → M.at' l k ≠ M.at' l i := by
  simp only [M.shared, Bool.eq_false_iff, ne_eq, List.contains_iff_mem, List.mem_take_iff_getElem]
  constructor
  · intro h k hk he
    exact h ⟨k, by omega, by rw [M.at_get (by omega)] at he; exact he⟩
  · rintro h ⟨k, hk, he⟩
    exact h k (by omega) (by rw [M.at_get (by omega)]; exact he)
theorem M.lot_inr {t : Town} {n : Int} : M.lot t n = M.inr n 0 ((t.walk.length : Int) - 1) := rfl
theorem M.ok_rows {t : Town} (ok : M.Ok t) (a : Nat) (ha : a < t.walk.length) : M.RowOk t a := ⟨ok.walks.1 a ha, fun b hb => ⟨ok.walks.2.1 a ha b hb, ok.walks.1 b hb⟩⟩
theorem M.ok_wishes {t : Town} (ok : M.Ok t) (i : Nat) (hi : i < t.houses.length) : M.different (M.hs t i).wishes t.walk.length = true := by
  rw [M.different_iff]
  intro k hk
  exact ((ok.houses.1 i hi).2.2 k hk)
theorem M.at_now {t : Town} {i : Nat} (hi : i < t.houses.length) : M.at' (M.now t) i = (M.hs t i).lot := by
  rw [M.at_get (by simpa [M.now] using hi), M.hs_get hi]; simp [M.now]
theorem M.ok_valid {t : Town} (hr : ∀ a, a < t.walk.length → M.RowOk t a) (hw : ∀ i, i < t.houses.length → M.different (M.hs t i).wishes t.walk.length = true) :
    M.Ok t ↔ (M.inr t.walk.length 1 7 = true ∧ M.inr t.reach 0 1000 = true ∧ M.different t.schools t.walk.length = true ∧ M.sorted t.schools = true ∧ t.gone.length = t.walk.length ∧ M.inr t.houses.length 1 6 = true ∧ M.different (M.now t) t.walk.length = true ∧ t.kin.length ≤ 10 ∧ ∀ k, k < t.kin.length → M.KinOk t k) := by
  have hnl : (M.now t).length = t.houses.length := by simp [M.now]
  constructor
  · intro ok
    refine ⟨ok.walks.2.2, ok.reach, ?_, ?_, ok.gone, ok.houses.2, ?_, ok.kin, ok.kins⟩
    · rw [M.different_iff]
      intro i hi
      refine ⟨(ok.schools i hi).1, (M.shared_iff hi).2 fun k hk => ?_⟩
      have key : ∀ d a, a + d + 1 < t.schools.length → M.at' t.schools a < M.at' t.schools (a + d + 1) := by
        intro d
        induction d with
        | zero =>
          intro a ha
          have := (ok.schools (a + 1) ha).2
          simp only [Nat.add_sub_cancel] at this
          simp only [Nat.add_zero]; omega
        | succ d ih =>
          intro a ha
          have h1 := ih a (by omega)
          have h2 := (ok.schools (a + (d + 1) + 1) ha).2
          simp only [Nat.add_sub_cancel] at h2
          rw [show a + (d + 1) = a + d + 1 by omega] at *
          omega
      have := key (i - k - 1) k (by omega)
      rw [show k + (i - k - 1) + 1 = i by omega] at this
      omega
    · rw [M.sorted, decide_eq_true_eq]
      intro j h1 h2
      have := (ok.schools j h1).2
      omega
    · rw [M.different_iff]
      intro i hi
      have hi' : i < t.houses.length := by omega
      refine ⟨?_, (M.shared_iff hi).2 fun k hk => ?_⟩
      · rw [M.at_now hi']; exact (ok.houses.1 i hi').1
      · rw [M.at_now hi', M.at_now (by omega)]; exact (ok.houses.1 i hi').2.1 k hk
  · rintro ⟨h1, h2, h3, h4, h5, h6, h7, h8, h9⟩
    rw [M.different_iff] at h3 h7
    rw [M.sorted, decide_eq_true_eq] at h4
    refine ⟨⟨fun i hi => (hr i hi).1, fun i hi k hk => ((hr i hi).2 k hk).1, h1⟩, ⟨fun i hi => ⟨?_, ?_, ?_⟩, h6⟩, h2, h5, h8, fun i hi => ⟨(h3 i hi).1, ?_⟩, h9⟩
    · have := (h7 i (by omega)).1
      rw [M.at_now hi] at this; exact this
    · intro k hk
      have := (M.shared_iff (by omega)).1 (h7 i (by omega)).2 k hk
      rwa [M.at_now hi, M.at_now (by omega)] at this
    · exact M.different_iff.1 (hw i hi)
    · rintro ⟨hp, hle⟩
      have a1 := h4 i hi hp
      have a2 := (M.shared_iff hi).1 (h3 i hi).2 (i - 1) (by omega)
      omega
theorem M.kins_first (t : Town) : (!(M.first t.kin.length fun k => !M.kinB t (M.kn t k).1 (M.kn t k).2).isSome) = decide (∀ k, k < t.kin.length → M.KinOk t k) := by
  rw [Bool.eq_iff_iff]
  simp only [M.first, Bool.not_eq_true', Option.isSome_eq_false_iff, Option.isNone_iff_eq_none, List.find?_eq_none, List.mem_range, Bool.not_eq_false, Bool.not_not, decide_eq_true_eq]
  constructor
  · intro h k hk
    have := h k hk
    rw [M.kn_get hk] at this
    exact (M.kinB_iff hk).1 this
  · intro h k hk
    rw [M.kn_get hk]
    exact (M.kinB_iff hk).2 (h k hk)
theorem closed_T (t : Town) (p : List Int) (b : Bool) : Closed [.box 28 (cT t), .arr 3 1 (rI p) b] := by
  intro o ho
  simp only [List.mem_cons, List.not_mem_nil, or_false] at ho
  rcases ho with rfl | rfl
  · simp only [AObj.all, cT, V.allL, V.all, rI_all, rB_all, rL_all, rH_all, rP_all, Bool.and_self]
  · exact rI_flat _ _

theorem mv_valid1 (t : Town) (h : List AObj) (i : Nat) (hc : Closed h) (hi : h[i]? = some (.box 28 (cT t))) (hh : t.houses.length ≤ 1000) (a b : Int) : RetS Try.prog 74 [.agg [.int .i64 a, .int .i64 b], .ptr i 0] h (.bool (!M.kinB t a b)) h := by
  have hwr : IntKind.i64.wrap ((t.houses.length : Int) - 1) = (t.houses.length : Int) - 1 := wrap_id (by omega) (by omega)
  have hi1 : (h ++ [.box 43 [.int .i64 a, .int .i64 b]])[i]? = some (.box 28 (cT t)) := by rw [List.getElem?_append_left (List.getElem?_eq_some_iff.1 hi).1]; exact hi
  have hib := heap_new h [] (.box 43 [.int .i64 a, .int .i64 b])
  have hib2 := heap_take h [.box 43 [.int .i64 a, .int .i64 b]]
  apply RetS_fin (fn := Try.f74) Try.func74 rfl (by simp [V.all]) hc
  apply T_seq
  apply T_r F
  · (simp only [go_sem, Try.ntmps74, cT_eq, hi, hi1, hib, hib2, hwr]) <;> exact rfl
  apply K_seq
  apply T_seq
  apply T_wL F [0, 1, 2, 3, 4, 5, 6, 7, 8, 9, 10, 11, 12, 13, 14, 15, 16, 17, 18, 19, 20, 21, 22, 23, 24, 25] rfl
  apply W_pre [0, 1, 2, 3, 4, 5] [6, 7, 8, 9, 10, 11, 12, 13, 14, 15, 16, 17, 18, 19, 20, 21, 22, 23, 24, 25]
  · (simp only [go_sem, Try.ntmps74, cT_eq, hi, hi1, hib, hib2, hwr]) <;> exact rfl
  apply W_call -- call 0 of function 70
  · (simp only [go_sem, Try.ntmps74, cT_eq, hi, hi1, hib, hib2, hwr]) <;> exact rfl
  · (simp only [go_sem, Try.ntmps74, cT_eq, hi, hi1, hib, hib2, hwr]) <;> exact rfl
  · exact rfl
  · (simp only [go_sem, Try.ntmps74, cT_eq, hi, hi1, hib, hib2, hwr]) <;> exact rfl
  · (simp only [go_sem, Try.ntmps74, cT_eq, hi, hi1, hib, hib2, hwr]) <;> exact rfl
  · exact ⟨_, Try.func70, rfl, rfl⟩
  · (simp only [go_sem, Try.ntmps74, cT_eq, hi, hi1, hib, hib2, hwr]) <;> exact rfl
  · (simp only [go_sem, Try.ntmps74, cT_eq, hi, hi1, hib, hib2, hwr]) <;> exact rfl
  · exact mv_in _ _ _
  apply W_pre [7, 8] [9, 10, 11, 12, 13, 14, 15, 16, 17, 18, 19, 20, 21, 22, 23, 24, 25]
  · (simp only [go_sem, Try.ntmps74, cT_eq, hi, hi1, hib, hib2, hwr]) <;> exact rfl
  apply W_guard
  · (simp only [go_sem, Try.ntmps74, cT_eq, hi, hi1, hib, hib2, hwr]) <;> exact rfl
  · (simp only [go_sem, Try.ntmps74, cT_eq, hi, hi1, hib, hib2, hwr]) <;> exact rfl
  · intro bg0t
    have g0t := bg0t
    try simp only [CS] at g0t
    try simp only [BS] at bg0t
    try exact absurd bg0t (by decide)
    all_goals (
  apply W_pre [9, 10, 11, 12, 13, 14] [15, 16, 17, 18, 19, 20, 21, 22, 23, 24, 25]
  · (simp only [go_sem, Try.ntmps74, cT_eq, hi, hi1, hib, hib2, hwr, bg0t]) <;> exact rfl
  apply W_call -- call 1 of function 70
  · (simp only [go_sem, Try.ntmps74, cT_eq, hi, hi1, hib, hib2, hwr, bg0t]) <;> exact rfl
  · (simp only [go_sem, Try.ntmps74, cT_eq, hi, hi1, hib, hib2, hwr, bg0t]) <;> exact rfl
  · exact rfl
  · (simp only [go_sem, Try.ntmps74, cT_eq, hi, hi1, hib, hib2, hwr, bg0t]) <;> exact rfl
  · (simp only [go_sem, Try.ntmps74, cT_eq, hi, hi1, hib, hib2, hwr, bg0t]) <;> exact rfl
  · exact ⟨_, Try.func70, rfl, rfl⟩
  · (simp only [go_sem, Try.ntmps74, cT_eq, hi, hi1, hib, hib2, hwr, bg0t]) <;> exact rfl
  · (simp only [go_sem, Try.ntmps74, cT_eq, hi, hi1, hib, hib2, hwr, bg0t]) <;> exact rfl
  · exact mv_in _ _ _
  apply W_pre [16, 17, 18] [19, 20, 21, 22, 23, 24, 25]
  · (simp only [go_sem, Try.ntmps74, cT_eq, hi, hi1, hib, hib2, hwr, bg0t]) <;> exact rfl
  apply W_guard
  · (simp only [go_sem, Try.ntmps74, cT_eq, hi, hi1, hib, hib2, hwr, bg0t]) <;> exact rfl
  · (simp only [go_sem, Try.ntmps74, cT_eq, hi, hi1, hib, hib2, hwr, bg0t]) <;> exact rfl
  · intro bg1t
    have g1t := bg1t
    try simp only [CS] at g1t
    try simp only [BS] at bg1t
    try exact absurd bg1t (by decide)
    all_goals (
  apply W_pre [19, 20, 21, 22] [23, 24, 25]
  · (simp only [go_sem, Try.ntmps74, cT_eq, hi, hi1, hib, hib2, hwr, bg0t, bg1t]) <;> exact rfl
  apply W_run
  · (simp only [go_sem, Try.ntmps74, cT_eq, hi, hi1, hib, hib2, hwr, bg0t, bg1t]) <;> exact rfl
  apply W_nil
  apply K_seq
  apply T_ret
  apply finS_ret
  · (simp only [go_sem, Try.ntmps74, cT_eq, hi, hi1, hib, hib2, hwr, bg0t, bg1t, Try.f74]) <;> exact rfl
  · simp
  · simp
  -- leaf 0 (ret)
  simp only [go_sem, Try.ntmps74, cT_eq, hi, hi1, hib, hib2, hwr, bg0t, bg1t, V.bool.injEq, V.int.injEq, true_and]
  simp_all [M.kinB])
  · intro bg1f
    have g1f := bg1f
    try simp only [CS] at g1f
    try simp only [BS] at bg1f
    try exact absurd bg1f (by decide)
    all_goals (
  apply W_pre [19, 20, 21, 22] [23, 24, 25]
  · (simp only [go_sem, Try.ntmps74, cT_eq, hi, hi1, hib, hib2, hwr, bg0t, bg1f]) <;> exact rfl
  apply W_run
  · (simp only [go_sem, Try.ntmps74, cT_eq, hi, hi1, hib, hib2, hwr, bg0t, bg1f]) <;> exact rfl
  apply W_nil
  apply K_seq
  apply T_ret
  apply finS_ret
  · (simp only [go_sem, Try.ntmps74, cT_eq, hi, hi1, hib, hib2, hwr, bg0t, bg1f, Try.f74]) <;> exact rfl
  · simp
  · simp
  -- leaf 1 (ret)
  simp only [go_sem, Try.ntmps74, cT_eq, hi, hi1, hib, hib2, hwr, bg0t, bg1f, V.bool.injEq, V.int.injEq, true_and]
  simp_all [M.kinB]))
  · intro bg0f
    have g0f := bg0f
    try simp only [CS] at g0f
    try simp only [BS] at bg0f
    try exact absurd bg0f (by decide)
    all_goals (
  apply W_pre [9, 10, 11, 12] [13, 14, 15, 16, 17, 18, 19, 20, 21, 22, 23, 24, 25]
  · (simp only [go_sem, Try.ntmps74, cT_eq, hi, hi1, hib, hib2, hwr, bg0f]) <;> exact rfl
  apply W_pre [13, 14, 15, 16] [17, 18, 19, 20, 21, 22, 23, 24, 25]
  · (simp only [go_sem, Try.ntmps74, cT_eq, hi, hi1, hib, hib2, hwr, bg0f]) <;> exact rfl
  apply W_pre [17, 18, 19, 20] [21, 22, 23, 24, 25]
  · (simp only [go_sem, Try.ntmps74, cT_eq, hi, hi1, hib, hib2, hwr, bg0f]) <;> exact rfl
  apply W_run
  · (simp only [go_sem, Try.ntmps74, cT_eq, hi, hi1, hib, hib2, hwr, bg0f]) <;> exact rfl
  apply W_nil
  apply K_seq
  apply T_ret
  apply finS_ret
  · (simp only [go_sem, Try.ntmps74, cT_eq, hi, hi1, hib, hib2, hwr, bg0f, Try.f74]) <;> exact rfl
  · simp
  · simp
  -- leaf 2 (ret)
  simp only [go_sem, Try.ntmps74, cT_eq, hi, hi1, hib, hib2, hwr, bg0f, V.bool.injEq, V.int.injEq, true_and]
  simp_all [M.kinB])

theorem mv_valid (t : Town) (hh : t.houses.length ≤ 1000) : Ret Try.prog 46 [.agg (cT t)] (.bool (decide (M.Ok t))) := by
  refine Ret.of_fits fun hfits => ?_
  simp only [V.fits, V.fitsL, V.fitsR, cT_fits] at hfits
  have hl := hfits.1.walk
  have hlk := hfits.1.kin
  have hlr := hfits.1.rows
  apply Ret_fin (fn := Try.f46) Try.func46 rfl
  apply T_seq
  apply T_r F
  · (simp only [go_sem, Try.ntmps46, rI_flat]) <;> exact rfl
  apply K_seq
  apply T_seq
  apply T_r F
  · (simp only [go_sem, Try.ntmps46, rI_flat]) <;> exact rfl
  apply K_seq
  apply T_seq
  apply T_seq
  apply T_r F
  · (simp only [go_sem, Try.ntmps46, rI_flat]) <;> exact rfl
  apply K_seq
  apply T_block
  apply T_lp (α := Nat) [false, true, false, true, false, false, false, false, false, false, false, false, false, false, false, true, true, true, false, false, false, false, false, false, false, false, false, false, false, false, false, false, false, false, false, false, false, false, false, false, false, false, false, false, false, false, false, false, false, false, false, false, false, false, false, false, false, false, false, false, false, false, false, false, false, false, false, false, false, false, false, false, false, false, false, false, false, false, false, false, false, false, false, false, false, false, false, false, false, false, false, false, false, false, false, false, false, false, false, false, false, false, false, false, false, false, false, false, false, false, false, false, false, false, false, false, false, false, false, false, false, false, false, false, false, false, false, false, false, false, false, false, false, false, false, false] (fun i => (⟨[.undef, .ptr 0 0, .undef, .int .i64 (t.walk.length : Int), .undef, .undef, .undef, .undef, .undef, .undef, .undef, .undef, .undef, .undef, .undef, .sl 1 (rL t.walk), .int .i64 (t.walk.length : Int), .int .i64 (i : Int), .undef, .undef, .undef, .undef, .undef, .undef, .undef, .undef, .undef, .undef, .undef, .undef, .undef, .undef, .undef, .undef, .undef, .undef, .undef, .undef, .undef, .undef, .undef, .undef, .undef, .undef, .undef, .undef, .undef, .undef, .undef, .undef, .undef, .undef, .undef, .undef, .undef, .undef, .undef, .undef, .undef, .undef, .undef, .undef, .undef, .undef, .undef, .undef, .undef, .undef, .undef, .undef, .undef, .undef, .undef, .undef, .undef, .undef, .undef, .undef, .undef, .undef, .undef, .undef, .undef, .undef, .undef, .undef, .undef, .undef, .undef, .undef, .undef, .undef, .undef, .undef, .undef, .undef, .undef, .undef, .undef, .undef, .undef, .undef, .undef, .undef, .undef, .undef, .undef, .undef, .undef, .undef, .undef, .undef, .undef, .undef, .undef, .undef, .undef, .undef, .undef, .undef, .undef, .undef, .undef, .undef, .undef, .undef, .undef, .undef, .undef, .undef, .undef, .undef, .undef, .undef, .undef, .undef], [.box 28 (cT t)]⟩ : St)) (fun i => i ≤ t.walk.length ∧ ∀ a, a < i → M.RowOk t a) (fun i => t.walk.length - i) (0)
  · (simp only [go_sem, Try.ntmps46, rI_flat]) <;> exact rfl
  · simp
  · rintro i ⟨hi, hia⟩
    apply T_seq
    apply T_r F
    · (simp only [go_sem, Try.ntmps46, rI_flat]) <;> exact rfl
    apply K_seq
    apply T_seq
    apply T_if
    · (simp only [go_sem, Try.ntmps46, rI_flat]) <;> exact rfl
    · intro bh0t
      have h0t := bh0t
      try simp only [CS] at h0t
      try simp only [BS] at bh0t
      try exact absurd bh0t (by decide)
      all_goals (
  have hb : i < 9223372036854775807 := by omega
  have hrw := M.row_get h0t
  have hok : M.Ok t → M.RowOk t i := fun ok => M.ok_rows ok i h0t
  unfold M.RowOk at hok
  apply T_skip
  apply K_seq
  apply T_seq
  apply T_block
  apply T_seq
  apply T_r F
  · (simp only [go_sem, Try.ntmps46, rI_flat, bh0t, h0t, rL_get h0t, hb]) <;> exact rfl
  apply K_seq
  apply T_seq
  apply T_seq
  apply T_r F
  · (simp only [go_sem, Try.ntmps46, rI_flat, bh0t, h0t, rL_get h0t, hb]) <;> exact rfl
  apply K_seq
  apply T_if
  · (simp only [go_sem, Try.ntmps46, rI_flat, bh0t, h0t, rL_get h0t, hb]) <;> exact rfl
  · intro bh1t
    have h1t := bh1t
    try simp only [CS] at h1t
    try simp only [BS] at bh1t
    try exact absurd bh1t (by decide)
    all_goals (
  apply T_seq
  apply T_r F
  · (simp only [go_sem, Try.ntmps46, rI_flat, bh0t, h0t, rL_get h0t, hb, bh1t]) <;> exact rfl
  apply K_seq
  apply T_ret
  apply K_seqR
  apply K_blkR
  apply K_seqR
  apply K_lpR
  apply K_blkR
  apply K_seqR
  apply fin_ret
  · (simp only [go_sem, Try.ntmps46, rI_flat, bh0t, h0t, rL_get h0t, hb, bh1t, Try.f46]) <;> exact rfl
  -- leaf 0 (ret)
  simp only [go_sem, Try.ntmps46, rI_flat, bh0t, h0t, rL_get h0t, hb, bh1t, V.bool.injEq, V.int.injEq, true_and]
  grind)
  · intro bh1f
    have h1f := bh1f
    try simp only [CS] at h1f
    try simp only [BS] at bh1f
    try exact absurd bh1f (by decide)
    all_goals (
  have hlen : t.walk[i].length = t.walk.length := h1f
  apply T_skip
  apply K_seq
  apply T_seq
  apply T_r F
  · (simp only [go_sem, Try.ntmps46, rI_flat, bh0t, h0t, rL_get h0t, hb, bh1f]) <;> exact rfl
  apply K_seq
  apply T_block
  apply T_lp (α := Nat) [false, true, false, true, true, false, false, false, false, false, false, false, false, false, false, true, true, true, false, false, false, false, false, false, false, false, true, true, true, false, false, false, false, false, false, false, false, false, false, false, false, false, false, false, false, false, false, false, false, false, false, false, false, false, false, false, false, false, false, false, false, false, false, false, false, false, false, false, false, false, false, false, false, false, false, false, false, false, false, false, false, false, false, false, false, false, false, false, false, false, false, false, false, false, false, false, false, false, false, false, false, false, false, false, false, false, false, false, false, false, false, false, false, false, false, false, false, false, false, false, false, false, false, false, false, false, false, false, false, false, false, false, false, false, false, false] (fun j => (⟨[.undef, .ptr 0 0, .undef, .int .i64 (t.walk.length : Int), .int .i64 (i : Int), .undef, .undef, .undef, .undef, .undef, .undef, .undef, .undef, .undef, .undef, .sl 1 (rL t.walk), .int .i64 (t.walk.length : Int), .int .i64 (i : Int), .undef, .undef, .undef, .undef, .undef, .undef, .undef, .undef, .sl 1 (rI t.walk[i]), .int .i64 (t.walk[i].length : Int), .int .i64 (j : Int), .undef, .undef, .undef, .undef, .undef, .undef, .undef, .undef, .undef, .undef, .undef, .undef, .undef, .undef, .undef, .undef, .undef, .undef, .undef, .undef, .undef, .undef, .undef, .undef, .undef, .undef, .undef, .undef, .undef, .undef, .undef, .undef, .undef, .undef, .undef, .undef, .undef, .undef, .undef, .undef, .undef, .undef, .undef, .undef, .undef, .undef, .undef, .undef, .undef, .undef, .undef, .undef, .undef, .undef, .undef, .undef, .undef, .undef, .undef, .undef, .undef, .undef, .undef, .undef, .undef, .undef, .undef, .undef, .undef, .undef, .undef, .undef, .undef, .undef, .undef, .undef, .undef, .undef, .undef, .undef, .undef, .undef, .undef, .undef, .undef, .undef, .undef, .undef, .undef, .undef, .undef, .undef, .undef, .undef, .undef, .undef, .undef, .undef, .undef, .undef, .undef, .undef, .undef, .undef, .undef, .undef, .undef], [.box 28 (cT t)]⟩ : St)) (fun j => j ≤ t.walk[i].length ∧ ∀ b, b < j → M.Cell t i b ∧ (M.row t b).length = t.walk.length) (fun j => t.walk[i].length - j) (0)
  · (simp only [go_sem, Try.ntmps46, rI_flat, bh0t, h0t, rL_get h0t, hb, bh1f]) <;> exact rfl
  · simp
  · rintro j ⟨hjj, hjb⟩
    apply T_seq
    apply T_r F
    · (simp only [go_sem, Try.ntmps46, rI_flat, bh0t, h0t, rL_get h0t, hb, bh1f]) <;> exact rfl
    apply K_seq
    apply T_seq
    apply T_if
    · (simp only [go_sem, Try.ntmps46, rI_flat, bh0t, h0t, rL_get h0t, hb, bh1f]) <;> exact rfl
    · intro bh2t
      have h2t := bh2t
      try simp only [CS] at h2t
      try simp only [BS] at bh2t
      try exact absurd bh2t (by decide)
      all_goals (
  have hbj : j < 9223372036854775807 := by omega
  have hjn : j < t.walk.length := by omega
  have hrj := M.row_get hjn
  have d1 := M.dist_nat h0t h2t
  have hcj : M.Ok t → M.Cell t i j ∧ (M.row t j).length = t.walk.length := fun ok => (hok ok).2 j hjn
  have hcu := M.Cell.eq_1 t i j
  rw [d1] at hcu
  apply T_skip
  apply K_seq
  apply T_seq
  apply T_block
  apply T_seq
  apply T_r F
  · (simp only [go_sem, Try.ntmps46, rI_flat, bh0t, h0t, rL_get h0t, hb, bh1f, bh2t, h2t, rI_get h2t, hbj, hjn, rL_get hjn]) <;> exact rfl
  apply K_seq
  apply T_seq
  apply T_wL F [0, 1, 2, 3, 4, 5, 6, 7, 8, 9, 10, 11, 12, 13, 14, 15, 16, 17, 18, 19, 20, 21, 22, 23, 24, 25, 26, 27, 28, 29, 30, 31, 32, 33] rfl
  apply W_pre [0] [1, 2, 3, 4, 5, 6, 7, 8, 9, 10, 11, 12, 13, 14, 15, 16, 17, 18, 19, 20, 21, 22, 23, 24, 25, 26, 27, 28, 29, 30, 31, 32, 33]
  · (simp only [go_sem, Try.ntmps46, rI_flat, bh0t, h0t, rL_get h0t, hb, bh1f, bh2t, h2t, rI_get h2t, hbj, hjn, rL_get hjn]) <;> exact rfl
  apply W_call -- call 0 of function 70
  · (simp only [go_sem, Try.ntmps46, rI_flat, bh0t, h0t, rL_get h0t, hb, bh1f, bh2t, h2t, rI_get h2t, hbj, hjn, rL_get hjn]) <;> exact rfl
  · (simp only [go_sem, Try.ntmps46, rI_flat, bh0t, h0t, rL_get h0t, hb, bh1f, bh2t, h2t, rI_get h2t, hbj, hjn, rL_get hjn]) <;> exact rfl
  · exact rfl
  · (simp only [go_sem, Try.ntmps46, rI_flat, bh0t, h0t, rL_get h0t, hb, bh1f, bh2t, h2t, rI_get h2t, hbj, hjn, rL_get hjn]) <;> exact rfl
  · (simp only [go_sem, Try.ntmps46, rI_flat, bh0t, h0t, rL_get h0t, hb, bh1f, bh2t, h2t, rI_get h2t, hbj, hjn, rL_get hjn]) <;> exact rfl
  · exact ⟨_, Try.func70, rfl, rfl⟩
  · (simp only [go_sem, Try.ntmps46, rI_flat, bh0t, h0t, rL_get h0t, hb, bh1f, bh2t, h2t, rI_get h2t, hbj, hjn, rL_get hjn]) <;> exact rfl
  · (simp only [go_sem, Try.ntmps46, rI_flat, bh0t, h0t, rL_get h0t, hb, bh1f, bh2t, h2t, rI_get h2t, hbj, hjn, rL_get hjn]) <;> exact rfl
  · exact mv_in _ _ _
  apply W_pre [2, 3] [4, 5, 6, 7, 8, 9, 10, 11, 12, 13, 14, 15, 16, 17, 18, 19, 20, 21, 22, 23, 24, 25, 26, 27, 28, 29, 30, 31, 32, 33]
  · (simp only [go_sem, Try.ntmps46, rI_flat, bh0t, h0t, rL_get h0t, hb, bh1f, bh2t, h2t, rI_get h2t, hbj, hjn, rL_get hjn]) <;> exact rfl
  apply W_guard
  · (simp only [go_sem, Try.ntmps46, rI_flat, bh0t, h0t, rL_get h0t, hb, bh1f, bh2t, h2t, rI_get h2t, hbj, hjn, rL_get hjn]) <;> exact rfl
  · (simp only [go_sem, Try.ntmps46, rI_flat, bh0t, h0t, rL_get h0t, hb, bh1f, bh2t, h2t, rI_get h2t, hbj, hjn, rL_get hjn]) <;> exact rfl
  · intro bg0t
    have g0t := bg0t
    try simp only [CS] at g0t
    try simp only [BS] at bg0t
    try exact absurd bg0t (by decide)
    all_goals (
  apply W_pre [4, 5, 6, 7] [8, 9, 10, 11, 12, 13, 14, 15, 16, 17, 18, 19, 20, 21, 22, 23, 24, 25, 26, 27, 28, 29, 30, 31, 32, 33]
  · (simp only [go_sem, Try.ntmps46, rI_flat, bh0t, h0t, rL_get h0t, hb, bh1f, bh2t, h2t, rI_get h2t, hbj, hjn, rL_get hjn, bg0t]) <;> exact rfl
  apply W_guard
  · (simp only [go_sem, Try.ntmps46, rI_flat, bh0t, h0t, rL_get h0t, hb, bh1f, bh2t, h2t, rI_get h2t, hbj, hjn, rL_get hjn, bg0t]) <;> exact rfl
  · (simp only [go_sem, Try.ntmps46, rI_flat, bh0t, h0t, rL_get h0t, hb, bh1f, bh2t, h2t, rI_get h2t, hbj, hjn, rL_get hjn, bg0t]) <;> exact rfl
  · intro bg1t
    have g1t := bg1t
    try simp only [CS] at g1t
    try simp only [BS] at bg1t
    try exact absurd bg1t (by decide)
    all_goals (
  apply W_pre [8, 9, 10, 11, 12] [13, 14, 15, 16, 17, 18, 19, 20, 21, 22, 23, 24, 25, 26, 27, 28, 29, 30, 31, 32, 33]
  · (simp only [go_sem, Try.ntmps46, rI_flat, bh0t, h0t, rL_get h0t, hb, bh1f, bh2t, h2t, rI_get h2t, hbj, hjn, rL_get hjn, bg0t, bg1t]) <;> exact rfl
  apply W_guard
  · (simp only [go_sem, Try.ntmps46, rI_flat, bh0t, h0t, rL_get h0t, hb, bh1f, bh2t, h2t, rI_get h2t, hbj, hjn, rL_get hjn, bg0t, bg1t]) <;> exact rfl
  · (simp only [go_sem, Try.ntmps46, rI_flat, bh0t, h0t, rL_get h0t, hb, bh1f, bh2t, h2t, rI_get h2t, hbj, hjn, rL_get hjn, bg0t, bg1t]) <;> exact rfl
  · intro bg2t
    have g2t := bg2t
    try simp only [CS] at g2t
    try simp only [BS] at bg2t
    try exact absurd bg2t (by decide)
    all_goals (
  apply W_pre [13, 14, 15, 16] [17, 18, 19, 20, 21, 22, 23, 24, 25, 26, 27, 28, 29, 30, 31, 32, 33]
  · (simp only [go_sem, Try.ntmps46, rI_flat, bh0t, h0t, rL_get h0t, hb, bh1f, bh2t, h2t, rI_get h2t, hbj, hjn, rL_get hjn, bg0t, bg1t, bg2t]) <;> exact rfl
  apply W_pre [17, 18, 19, 20, 21, 22] [23, 24, 25, 26, 27, 28, 29, 30, 31, 32, 33]
  · (simp only [go_sem, Try.ntmps46, rI_flat, bh0t, h0t, rL_get h0t, hb, bh1f, bh2t, h2t, rI_get h2t, hbj, hjn, rL_get hjn, bg0t, bg1t, bg2t]) <;> exact rfl
  apply W_guard
  · (simp only [go_sem, Try.ntmps46, rI_flat, bh0t, h0t, rL_get h0t, hb, bh1f, bh2t, h2t, rI_get h2t, hbj, hjn, rL_get hjn, bg0t, bg1t, bg2t]) <;> exact rfl
  · (simp only [go_sem, Try.ntmps46, rI_flat, bh0t, h0t, rL_get h0t, hb, bh1f, bh2t, h2t, rI_get h2t, hbj, hjn, rL_get hjn, bg0t, bg1t, bg2t]) <;> exact rfl
  · intro bg3t
    have g3t := bg3t
    try simp only [CS] at g3t
    try simp only [BS] at bg3t
    try exact absurd bg3t (by decide)
    all_goals (
  have r2 : i < (t.walk[j]).length := by omega
  have d2 := M.dist_nat hjn r2
  rw [d2] at hcu
  apply W_pre [23, 24, 25, 26] [27, 28, 29, 30, 31, 32, 33]
  · (simp only [go_sem, Try.ntmps46, rI_flat, bh0t, h0t, rL_get h0t, hb, bh1f, bh2t, h2t, rI_get h2t, hbj, hjn, rL_get hjn, bg0t, bg1t, bg2t, bg3t, r2, rI_get r2]) <;> exact rfl
  apply W_pre [27, 28, 29, 30] [31, 32, 33]
  · (simp only [go_sem, Try.ntmps46, rI_flat, bh0t, h0t, rL_get h0t, hb, bh1f, bh2t, h2t, rI_get h2t, hbj, hjn, rL_get hjn, bg0t, bg1t, bg2t, bg3t, r2, rI_get r2]) <;> exact rfl
  apply W_run
  · (simp only [go_sem, Try.ntmps46, rI_flat, bh0t, h0t, rL_get h0t, hb, bh1f, bh2t, h2t, rI_get h2t, hbj, hjn, rL_get hjn, bg0t, bg1t, bg2t, bg3t, r2, rI_get r2]) <;> exact rfl
  apply W_nil
  apply K_seq
  apply T_if
  · (simp only [go_sem, Try.ntmps46, rI_flat, bh0t, h0t, rL_get h0t, hb, bh1f, bh2t, h2t, rI_get h2t, hbj, hjn, rL_get hjn, bg0t, bg1t, bg2t, bg3t, r2, rI_get r2]) <;> exact rfl
  · intro bh3t
    have h3t := bh3t
    try simp only [CS] at h3t
    try simp only [BS] at bh3t
    try exact absurd bh3t (by decide)
    all_goals (
  apply T_seq
  apply T_r F
  · (simp only [go_sem, Try.ntmps46, rI_flat, bh0t, h0t, rL_get h0t, hb, bh1f, bh2t, h2t, rI_get h2t, hbj, hjn, rL_get hjn, bg0t, bg1t, bg2t, bg3t, r2, rI_get r2, bh3t]) <;> exact rfl
  apply K_seq
  apply T_ret
  apply K_blkR
  apply K_seqR
  apply K_lpR
  apply K_blkR
  apply K_blkR
  apply K_seqR
  apply K_lpR
  apply K_blkR
  apply K_seqR
  apply fin_ret
  · (simp only [go_sem, Try.ntmps46, rI_flat, bh0t, h0t, rL_get h0t, hb, bh1f, bh2t, h2t, rI_get h2t, hbj, hjn, rL_get hjn, bg0t, bg1t, bg2t, bg3t, r2, rI_get r2, bh3t, Try.f46]) <;> exact rfl
  -- leaf 1 (ret)
  simp only [go_sem, Try.ntmps46, rI_flat, bh0t, h0t, rL_get h0t, hb, bh1f, bh2t, h2t, rI_get h2t, hbj, hjn, rL_get hjn, bg0t, bg1t, bg2t, bg3t, r2, rI_get r2, bh3t, V.bool.injEq, V.int.injEq, true_and]
  grind)
  · intro bh3f
    have h3f := bh3f
    try simp only [CS] at h3f
    try simp only [BS] at bh3f
    try exact absurd bh3f (by decide)
    all_goals (
  apply T_skip
  apply K_blk
  apply K_seq
  apply T_r F
  · (simp only [go_sem, Try.ntmps46, rI_flat, bh0t, h0t, rL_get h0t, hb, bh1f, bh2t, h2t, rI_get h2t, hbj, hjn, rL_get hjn, bg0t, bg1t, bg2t, bg3t, r2, rI_get r2, bh3f]) <;> exact rfl
  refine K_lp (j + 1) ?_ ?_
  · (simp only [go_sem, Try.ntmps46, rI_flat, bh0t, h0t, rL_get h0t, hb, bh1f, bh2t, h2t, rI_get h2t, hbj, hjn, rL_get hjn, bg0t, bg1t, bg2t, bg3t, r2, rI_get r2, bh3f]) <;> exact rfl
  -- leaf 2 (loop1)
  grind))
  · intro bg3f
    have g3f := bg3f
    try simp only [CS] at g3f
    try simp only [BS] at bg3f
    try exact absurd bg3f (by decide)
    all_goals (
  apply W_pre [23, 24, 25, 26] [27, 28, 29, 30, 31, 32, 33]
  · (simp only [go_sem, Try.ntmps46, rI_flat, bh0t, h0t, rL_get h0t, hb, bh1f, bh2t, h2t, rI_get h2t, hbj, hjn, rL_get hjn, bg0t, bg1t, bg2t, bg3f]) <;> exact rfl
  apply W_pre [27, 28, 29, 30] [31, 32, 33]
  · (simp only [go_sem, Try.ntmps46, rI_flat, bh0t, h0t, rL_get h0t, hb, bh1f, bh2t, h2t, rI_get h2t, hbj, hjn, rL_get hjn, bg0t, bg1t, bg2t, bg3f]) <;> exact rfl
  apply W_run
  · (simp only [go_sem, Try.ntmps46, rI_flat, bh0t, h0t, rL_get h0t, hb, bh1f, bh2t, h2t, rI_get h2t, hbj, hjn, rL_get hjn, bg0t, bg1t, bg2t, bg3f]) <;> exact rfl
  apply W_nil
  apply K_seq
  apply T_if
  · (simp only [go_sem, Try.ntmps46, rI_flat, bh0t, h0t, rL_get h0t, hb, bh1f, bh2t, h2t, rI_get h2t, hbj, hjn, rL_get hjn, bg0t, bg1t, bg2t, bg3f]) <;> exact rfl
  · intro bh4t
    have h4t := bh4t
    try simp only [CS] at h4t
    try simp only [BS] at bh4t
    try exact absurd bh4t (by decide)
    all_goals (
  apply T_seq
  apply T_r F
  · (simp only [go_sem, Try.ntmps46, rI_flat, bh0t, h0t, rL_get h0t, hb, bh1f, bh2t, h2t, rI_get h2t, hbj, hjn, rL_get hjn, bg0t, bg1t, bg2t, bg3f, bh4t]) <;> exact rfl
  apply K_seq
  apply T_ret
  apply K_blkR
  apply K_seqR
  apply K_lpR
  apply K_blkR
  apply K_blkR
  apply K_seqR
  apply K_lpR
  apply K_blkR
  apply K_seqR
  apply fin_ret
  · (simp only [go_sem, Try.ntmps46, rI_flat, bh0t, h0t, rL_get h0t, hb, bh1f, bh2t, h2t, rI_get h2t, hbj, hjn, rL_get hjn, bg0t, bg1t, bg2t, bg3f, bh4t, Try.f46]) <;> exact rfl
  -- leaf 3 (ret)
  simp only [go_sem, Try.ntmps46, rI_flat, bh0t, h0t, rL_get h0t, hb, bh1f, bh2t, h2t, rI_get h2t, hbj, hjn, rL_get hjn, bg0t, bg1t, bg2t, bg3f, bh4t, V.bool.injEq, V.int.injEq, true_and]
  grind)
  · intro bh4f
    exact absurd bh4f (by simp)))
  · intro bg2f
    have g2f := bg2f
    try simp only [CS] at g2f
    try simp only [BS] at bg2f
    try exact absurd bg2f (by decide)
    all_goals (
  apply W_pre [13, 14, 15, 16] [17, 18, 19, 20, 21, 22, 23, 24, 25, 26, 27, 28, 29, 30, 31, 32, 33]
  · (simp only [go_sem, Try.ntmps46, rI_flat, bh0t, h0t, rL_get h0t, hb, bh1f, bh2t, h2t, rI_get h2t, hbj, hjn, rL_get hjn, bg0t, bg1t, bg2f]) <;> exact rfl
  apply W_pre [17, 18, 19, 20] [21, 22, 23, 24, 25, 26, 27, 28, 29, 30, 31, 32, 33]
  · (simp only [go_sem, Try.ntmps46, rI_flat, bh0t, h0t, rL_get h0t, hb, bh1f, bh2t, h2t, rI_get h2t, hbj, hjn, rL_get hjn, bg0t, bg1t, bg2f]) <;> exact rfl
  apply W_pre [21, 22, 23, 24] [25, 26, 27, 28, 29, 30, 31, 32, 33]
  · (simp only [go_sem, Try.ntmps46, rI_flat, bh0t, h0t, rL_get h0t, hb, bh1f, bh2t, h2t, rI_get h2t, hbj, hjn, rL_get hjn, bg0t, bg1t, bg2f]) <;> exact rfl
  apply W_pre [25, 26, 27, 28] [29, 30, 31, 32, 33]
  · (simp only [go_sem, Try.ntmps46, rI_flat, bh0t, h0t, rL_get h0t, hb, bh1f, bh2t, h2t, rI_get h2t, hbj, hjn, rL_get hjn, bg0t, bg1t, bg2f]) <;> exact rfl
  apply W_run
  · (simp only [go_sem, Try.ntmps46, rI_flat, bh0t, h0t, rL_get h0t, hb, bh1f, bh2t, h2t, rI_get h2t, hbj, hjn, rL_get hjn, bg0t, bg1t, bg2f]) <;> exact rfl
  apply W_nil
  apply K_seq
  apply T_if
  · (simp only [go_sem, Try.ntmps46, rI_flat, bh0t, h0t, rL_get h0t, hb, bh1f, bh2t, h2t, rI_get h2t, hbj, hjn, rL_get hjn, bg0t, bg1t, bg2f]) <;> exact rfl
  · intro bh5t
    have h5t := bh5t
    try simp only [CS] at h5t
    try simp only [BS] at bh5t
    try exact absurd bh5t (by decide)
    all_goals (
  apply T_seq
  apply T_r F
  · (simp only [go_sem, Try.ntmps46, rI_flat, bh0t, h0t, rL_get h0t, hb, bh1f, bh2t, h2t, rI_get h2t, hbj, hjn, rL_get hjn, bg0t, bg1t, bg2f, bh5t]) <;> exact rfl
  apply K_seq
  apply T_ret
  apply K_blkR
  apply K_seqR
  apply K_lpR
  apply K_blkR
  apply K_blkR
  apply K_seqR
  apply K_lpR
  apply K_blkR
  apply K_seqR
  apply fin_ret
  · (simp only [go_sem, Try.ntmps46, rI_flat, bh0t, h0t, rL_get h0t, hb, bh1f, bh2t, h2t, rI_get h2t, hbj, hjn, rL_get hjn, bg0t, bg1t, bg2f, bh5t, Try.f46]) <;> exact rfl
  -- leaf 4 (ret)
  simp only [go_sem, Try.ntmps46, rI_flat, bh0t, h0t, rL_get h0t, hb, bh1f, bh2t, h2t, rI_get h2t, hbj, hjn, rL_get hjn, bg0t, bg1t, bg2f, bh5t, V.bool.injEq, V.int.injEq, true_and]
  grind)
  · intro bh5f
    exact absurd bh5f (by simp)))
  · intro bg1f
    have g1f := bg1f
    try simp only [CS] at g1f
    try simp only [BS] at bg1f
    try exact absurd bg1f (by decide)
    all_goals (
  apply W_pre [8, 9, 10, 11] [12, 13, 14, 15, 16, 17, 18, 19, 20, 21, 22, 23, 24, 25, 26, 27, 28, 29, 30, 31, 32, 33]
  · (simp only [go_sem, Try.ntmps46, rI_flat, bh0t, h0t, rL_get h0t, hb, bh1f, bh2t, h2t, rI_get h2t, hbj, hjn, rL_get hjn, bg0t, bg1f]) <;> exact rfl
  apply W_pre [12, 13, 14, 15] [16, 17, 18, 19, 20, 21, 22, 23, 24, 25, 26, 27, 28, 29, 30, 31, 32, 33]
  · (simp only [go_sem, Try.ntmps46, rI_flat, bh0t, h0t, rL_get h0t, hb, bh1f, bh2t, h2t, rI_get h2t, hbj, hjn, rL_get hjn, bg0t, bg1f]) <;> exact rfl
  apply W_pre [16, 17, 18, 19] [20, 21, 22, 23, 24, 25, 26, 27, 28, 29, 30, 31, 32, 33]
  · (simp only [go_sem, Try.ntmps46, rI_flat, bh0t, h0t, rL_get h0t, hb, bh1f, bh2t, h2t, rI_get h2t, hbj, hjn, rL_get hjn, bg0t, bg1f]) <;> exact rfl
  apply W_pre [20, 21, 22] [23, 24, 25, 26, 27, 28, 29, 30, 31, 32, 33]
  · (simp only [go_sem, Try.ntmps46, rI_flat, bh0t, h0t, rL_get h0t, hb, bh1f, bh2t, h2t, rI_get h2t, hbj, hjn, rL_get hjn, bg0t, bg1f]) <;> exact rfl
  apply W_guard
  · (simp only [go_sem, Try.ntmps46, rI_flat, bh0t, h0t, rL_get h0t, hb, bh1f, bh2t, h2t, rI_get h2t, hbj, hjn, rL_get hjn, bg0t, bg1f]) <;> exact rfl
  · (simp only [go_sem, Try.ntmps46, rI_flat, bh0t, h0t, rL_get h0t, hb, bh1f, bh2t, h2t, rI_get h2t, hbj, hjn, rL_get hjn, bg0t, bg1f]) <;> exact rfl
  · intro bg4t
    have g4t := bg4t
    try simp only [CS] at g4t
    try simp only [BS] at bg4t
    try exact absurd bg4t (by decide)
    all_goals (
  have r2 : i < (t.walk[j]).length := by omega
  have d2 := M.dist_nat hjn r2
  rw [d2] at hcu
  apply W_pre [23, 24, 25, 26] [27, 28, 29, 30, 31, 32, 33]
  · (simp only [go_sem, Try.ntmps46, rI_flat, bh0t, h0t, rL_get h0t, hb, bh1f, bh2t, h2t, rI_get h2t, hbj, hjn, rL_get hjn, bg0t, bg1f, bg4t, r2, rI_get r2]) <;> exact rfl
  apply W_pre [27, 28, 29, 30] [31, 32, 33]
  · (simp only [go_sem, Try.ntmps46, rI_flat, bh0t, h0t, rL_get h0t, hb, bh1f, bh2t, h2t, rI_get h2t, hbj, hjn, rL_get hjn, bg0t, bg1f, bg4t, r2, rI_get r2]) <;> exact rfl
  apply W_run
  · (simp only [go_sem, Try.ntmps46, rI_flat, bh0t, h0t, rL_get h0t, hb, bh1f, bh2t, h2t, rI_get h2t, hbj, hjn, rL_get hjn, bg0t, bg1f, bg4t, r2, rI_get r2]) <;> exact rfl
  apply W_nil
  apply K_seq
  apply T_if
  · (simp only [go_sem, Try.ntmps46, rI_flat, bh0t, h0t, rL_get h0t, hb, bh1f, bh2t, h2t, rI_get h2t, hbj, hjn, rL_get hjn, bg0t, bg1f, bg4t, r2, rI_get r2]) <;> exact rfl
  · intro bh6t
    have h6t := bh6t
    try simp only [CS] at h6t
    try simp only [BS] at bh6t
    try exact absurd bh6t (by decide)
    all_goals (
  apply T_seq
  apply T_r F
  · (simp only [go_sem, Try.ntmps46, rI_flat, bh0t, h0t, rL_get h0t, hb, bh1f, bh2t, h2t, rI_get h2t, hbj, hjn, rL_get hjn, bg0t, bg1f, bg4t, r2, rI_get r2, bh6t]) <;> exact rfl
  apply K_seq
  apply T_ret
  apply K_blkR
  apply K_seqR
  apply K_lpR
  apply K_blkR
  apply K_blkR
  apply K_seqR
  apply K_lpR
  apply K_blkR
  apply K_seqR
  apply fin_ret
  · (simp only [go_sem, Try.ntmps46, rI_flat, bh0t, h0t, rL_get h0t, hb, bh1f, bh2t, h2t, rI_get h2t, hbj, hjn, rL_get hjn, bg0t, bg1f, bg4t, r2, rI_get r2, bh6t, Try.f46]) <;> exact rfl
  -- leaf 5 (ret)
  simp only [go_sem, Try.ntmps46, rI_flat, bh0t, h0t, rL_get h0t, hb, bh1f, bh2t, h2t, rI_get h2t, hbj, hjn, rL_get hjn, bg0t, bg1f, bg4t, r2, rI_get r2, bh6t, V.bool.injEq, V.int.injEq, true_and]
  grind)
  · intro bh6f
    have h6f := bh6f
    try simp only [CS] at h6f
    try simp only [BS] at bh6f
    try exact absurd bh6f (by decide)
    all_goals (
  apply T_skip
  apply K_blk
  apply K_seq
  apply T_r F
  · (simp only [go_sem, Try.ntmps46, rI_flat, bh0t, h0t, rL_get h0t, hb, bh1f, bh2t, h2t, rI_get h2t, hbj, hjn, rL_get hjn, bg0t, bg1f, bg4t, r2, rI_get r2, bh6f]) <;> exact rfl
  refine K_lp (j + 1) ?_ ?_
  · (simp only [go_sem, Try.ntmps46, rI_flat, bh0t, h0t, rL_get h0t, hb, bh1f, bh2t, h2t, rI_get h2t, hbj, hjn, rL_get hjn, bg0t, bg1f, bg4t, r2, rI_get r2, bh6f]) <;> exact rfl
  -- leaf 6 (loop1)
  grind))
  · intro bg4f
    have g4f := bg4f
    try simp only [CS] at g4f
    try simp only [BS] at bg4f
    try exact absurd bg4f (by decide)
    all_goals (
  apply W_pre [23, 24, 25, 26] [27, 28, 29, 30, 31, 32, 33]
  · (simp only [go_sem, Try.ntmps46, rI_flat, bh0t, h0t, rL_get h0t, hb, bh1f, bh2t, h2t, rI_get h2t, hbj, hjn, rL_get hjn, bg0t, bg1f, bg4f]) <;> exact rfl
  apply W_pre [27, 28, 29, 30] [31, 32, 33]
  · (simp only [go_sem, Try.ntmps46, rI_flat, bh0t, h0t, rL_get h0t, hb, bh1f, bh2t, h2t, rI_get h2t, hbj, hjn, rL_get hjn, bg0t, bg1f, bg4f]) <;> exact rfl
  apply W_run
  · (simp only [go_sem, Try.ntmps46, rI_flat, bh0t, h0t, rL_get h0t, hb, bh1f, bh2t, h2t, rI_get h2t, hbj, hjn, rL_get hjn, bg0t, bg1f, bg4f]) <;> exact rfl
  apply W_nil
  apply K_seq
  apply T_if
  · (simp only [go_sem, Try.ntmps46, rI_flat, bh0t, h0t, rL_get h0t, hb, bh1f, bh2t, h2t, rI_get h2t, hbj, hjn, rL_get hjn, bg0t, bg1f, bg4f]) <;> exact rfl
  · intro bh7t
    have h7t := bh7t
    try simp only [CS] at h7t
    try simp only [BS] at bh7t
    try exact absurd bh7t (by decide)
    all_goals (
  apply T_seq
  apply T_r F
  · (simp only [go_sem, Try.ntmps46, rI_flat, bh0t, h0t, rL_get h0t, hb, bh1f, bh2t, h2t, rI_get h2t, hbj, hjn, rL_get hjn, bg0t, bg1f, bg4f, bh7t]) <;> exact rfl
  apply K_seq
  apply T_ret
  apply K_blkR
  apply K_seqR
  apply K_lpR
  apply K_blkR
  apply K_blkR
  apply K_seqR
  apply K_lpR
  apply K_blkR
  apply K_seqR
  apply fin_ret
  · (simp only [go_sem, Try.ntmps46, rI_flat, bh0t, h0t, rL_get h0t, hb, bh1f, bh2t, h2t, rI_get h2t, hbj, hjn, rL_get hjn, bg0t, bg1f, bg4f, bh7t, Try.f46]) <;> exact rfl
  -- leaf 7 (ret)
  simp only [go_sem, Try.ntmps46, rI_flat, bh0t, h0t, rL_get h0t, hb, bh1f, bh2t, h2t, rI_get h2t, hbj, hjn, rL_get hjn, bg0t, bg1f, bg4f, bh7t, V.bool.injEq, V.int.injEq, true_and]
  grind)
  · intro bh7f
    exact absurd bh7f (by simp))))
  · intro bg0f
    have g0f := bg0f
    try simp only [CS] at g0f
    try simp only [BS] at bg0f
    try exact absurd bg0f (by decide)
    all_goals (
  apply W_pre [4, 5, 6, 7] [8, 9, 10, 11, 12, 13, 14, 15, 16, 17, 18, 19, 20, 21, 22, 23, 24, 25, 26, 27, 28, 29, 30, 31, 32, 33]
  · (simp only [go_sem, Try.ntmps46, rI_flat, bh0t, h0t, rL_get h0t, hb, bh1f, bh2t, h2t, rI_get h2t, hbj, hjn, rL_get hjn, bg0f]) <;> exact rfl
  apply W_pre [8, 9, 10, 11] [12, 13, 14, 15, 16, 17, 18, 19, 20, 21, 22, 23, 24, 25, 26, 27, 28, 29, 30, 31, 32, 33]
  · (simp only [go_sem, Try.ntmps46, rI_flat, bh0t, h0t, rL_get h0t, hb, bh1f, bh2t, h2t, rI_get h2t, hbj, hjn, rL_get hjn, bg0f]) <;> exact rfl
  apply W_pre [12, 13, 14, 15] [16, 17, 18, 19, 20, 21, 22, 23, 24, 25, 26, 27, 28, 29, 30, 31, 32, 33]
  · (simp only [go_sem, Try.ntmps46, rI_flat, bh0t, h0t, rL_get h0t, hb, bh1f, bh2t, h2t, rI_get h2t, hbj, hjn, rL_get hjn, bg0f]) <;> exact rfl
  apply W_pre [16, 17, 18, 19] [20, 21, 22, 23, 24, 25, 26, 27, 28, 29, 30, 31, 32, 33]
  · (simp only [go_sem, Try.ntmps46, rI_flat, bh0t, h0t, rL_get h0t, hb, bh1f, bh2t, h2t, rI_get h2t, hbj, hjn, rL_get hjn, bg0f]) <;> exact rfl
  apply W_pre [20, 21, 22, 23] [24, 25, 26, 27, 28, 29, 30, 31, 32, 33]
  · (simp only [go_sem, Try.ntmps46, rI_flat, bh0t, h0t, rL_get h0t, hb, bh1f, bh2t, h2t, rI_get h2t, hbj, hjn, rL_get hjn, bg0f]) <;> exact rfl
  apply W_pre [24, 25, 26, 27] [28, 29, 30, 31, 32, 33]
  · (simp only [go_sem, Try.ntmps46, rI_flat, bh0t, h0t, rL_get h0t, hb, bh1f, bh2t, h2t, rI_get h2t, hbj, hjn, rL_get hjn, bg0f]) <;> exact rfl
  apply W_run
  · (simp only [go_sem, Try.ntmps46, rI_flat, bh0t, h0t, rL_get h0t, hb, bh1f, bh2t, h2t, rI_get h2t, hbj, hjn, rL_get hjn, bg0f]) <;> exact rfl
  apply W_nil
  apply K_seq
  apply T_if
  · (simp only [go_sem, Try.ntmps46, rI_flat, bh0t, h0t, rL_get h0t, hb, bh1f, bh2t, h2t, rI_get h2t, hbj, hjn, rL_get hjn, bg0f]) <;> exact rfl
  · intro bh8t
    have h8t := bh8t
    try simp only [CS] at h8t
    try simp only [BS] at bh8t
    try exact absurd bh8t (by decide)
    all_goals (
  apply T_seq
  apply T_r F
  · (simp only [go_sem, Try.ntmps46, rI_flat, bh0t, h0t, rL_get h0t, hb, bh1f, bh2t, h2t, rI_get h2t, hbj, hjn, rL_get hjn, bg0f, bh8t]) <;> exact rfl
  apply K_seq
  apply T_ret
  apply K_blkR
  apply K_seqR
  apply K_lpR
  apply K_blkR
  apply K_blkR
  apply K_seqR
  apply K_lpR
  apply K_blkR
  apply K_seqR
  apply fin_ret
  · (simp only [go_sem, Try.ntmps46, rI_flat, bh0t, h0t, rL_get h0t, hb, bh1f, bh2t, h2t, rI_get h2t, hbj, hjn, rL_get hjn, bg0f, bh8t, Try.f46]) <;> exact rfl
  -- leaf 8 (ret)
  simp only [go_sem, Try.ntmps46, rI_flat, bh0t, h0t, rL_get h0t, hb, bh1f, bh2t, h2t, rI_get h2t, hbj, hjn, rL_get hjn, bg0f, bh8t, V.bool.injEq, V.int.injEq, true_and]
  grind)
  · intro bh8f
    exact absurd bh8f (by simp)))
    · intro bh2f
      have h2f := bh2f
      try simp only [CS] at h2f
      try simp only [BS] at bh2f
      try exact absurd bh2f (by decide)
      all_goals (
  apply T_exit
  apply K_seqE
  apply K_lpE
  apply K_blkE
  apply K_blk
  apply K_seq
  apply T_r F
  · (simp only [go_sem, Try.ntmps46, rI_flat, bh0t, h0t, rL_get h0t, hb, bh1f, bh2f]) <;> exact rfl
  refine K_lp (i + 1) ?_ ?_
  · (simp only [go_sem, Try.ntmps46, rI_flat, bh0t, h0t, rL_get h0t, hb, bh1f, bh2f]) <;> exact rfl
  -- leaf 9 (loop0)
  grind [M.RowOk])))
    · intro bh0f
      have h0f := bh0f
      try simp only [CS] at h0f
      try simp only [BS] at bh0f
      try exact absurd bh0f (by decide)
      all_goals (
  have hrows : ∀ a, a < t.walk.length → M.RowOk t a := fun a ha => hia a (by omega)
  apply T_exit
  apply K_seqE
  apply K_lpE
  apply K_blkE
  apply K_seq
  apply T_seq
  apply T_r F
  · (simp only [go_sem, Try.ntmps46, rI_flat, bh0f]) <;> exact rfl
  apply K_seq
  apply T_seq
  apply T_seq
  apply T_r F
  · (simp only [go_sem, Try.ntmps46, rI_flat, bh0f]) <;> exact rfl
  apply K_seq
  apply T_block
  apply T_ghost (d := 8) (T := 3) (sz := 1)
  · (simp only [go_sem, Try.ntmps46, rI_flat, bh0f]) <;> exact rfl
  apply T_lp (α := Nat) [false, true, false, true, false, false, false, false, true, false, false, false, false, false, false, false, false, false, false, false, false, false, false, false, false, false, false, false, false, false, false, false, false, false, false, false, false, false, false, false, false, false, false, false, false, false, false, false, false, false, false, false, false, false, false, false, false, false, false, false, false, false, false, false, false, false, false, false, false, false, true, true, true, false, false, false, false, false, false, false, false, false, false, false, false, false, false, false, false, false, false, false, false, false, false, false, false, false, false, false, false, false, false, false, false, false, false, false, false, false, false, false, false, false, false, false, false, false, false, false, false, false, false, false, false, false, false, false, false, false, false, false, false, false, false, false] (fun k => (⟨[.undef, .ptr 0 0, .undef, .int .i64 (t.walk.length : Int), .undef, .undef, .undef, .undef, .arr 1 k, .undef, .undef, .undef, .undef, .undef, .undef, .undef, .undef, .undef, .undef, .undef, .undef, .undef, .undef, .undef, .undef, .undef, .undef, .undef, .undef, .undef, .undef, .undef, .undef, .undef, .undef, .undef, .undef, .undef, .undef, .undef, .undef, .undef, .undef, .undef, .undef, .undef, .undef, .undef, .undef, .undef, .undef, .undef, .undef, .undef, .undef, .undef, .undef, .undef, .undef, .undef, .undef, .undef, .undef, .undef, .undef, .undef, .undef, .undef, .undef, .undef, .sl 3 (rH t.houses), .int .i64 (t.houses.length : Int), .int .i64 (k : Int), .undef, .undef, .undef, .undef, .undef, .undef, .undef, .undef, .undef, .undef, .undef, .undef, .undef, .undef, .undef, .undef, .undef, .undef, .undef, .undef, .undef, .undef, .undef, .undef, .undef, .undef, .undef, .undef, .undef, .undef, .undef, .undef, .undef, .undef, .undef, .undef, .undef, .undef, .undef, .undef, .undef, .undef, .undef, .undef, .undef, .undef, .undef, .undef, .undef, .undef, .undef, .undef, .undef, .undef, .undef, .undef, .undef, .undef, .undef, .undef, .undef, .undef, .undef], [.box 28 (cT t), .arr 3 1 (rI ((M.now t).take k)) false]⟩ : St)) (fun k => k ≤ t.houses.length ∧ ∀ a, a < k → M.different (M.hs t a).wishes t.walk.length = true) (fun k => t.houses.length - k) (0)
  · (simp only [go_sem, Try.ntmps46, rI_flat, bh0f]) <;> exact rfl
  · simp
  · rintro k ⟨hk, hka⟩
    have hlen : ((M.now t).take k).length = k := by simp [M.now]; omega
    apply T_seq
    apply T_r F
    · (simp only [go_sem, Try.ntmps46, rI_flat, bh0f, hlen]) <;> exact rfl
    apply K_seq
    apply T_seq
    apply T_if
    · (simp only [go_sem, Try.ntmps46, rI_flat, bh0f, hlen]) <;> exact rfl
    · intro bh9t
      have h9t := bh9t
      try simp only [CS] at h9t
      try simp only [BS] at bh9t
      try exact absurd bh9t (by decide)
      all_goals (
  have hbk : k < 9223372036854775807 := by omega
  have hcap : (k + 1) * 8 ≤ 140737488355328 := by omega
  have hnow := M.now_step t h9t
  have hsk := M.hs_get h9t
  have hwk := fun ok : M.Ok t => M.ok_wishes ok k h9t
  apply T_skip
  apply K_seq
  apply T_seq
  apply T_block
  apply T_seq
  apply T_r F
  · (simp only [go_sem, Try.ntmps46, rI_flat, bh0f, hlen, bh9t, h9t, rH_get h9t, hbk, hcap, hnow]) <;> exact rfl
  apply K_seq
  apply T_seq
  apply T_r F
  · (simp only [go_sem, Try.ntmps46, rI_flat, bh0f, hlen, bh9t, h9t, rH_get h9t, hbk, hcap, hnow]) <;> exact rfl
  apply K_seq
  apply T_seq
  apply T_wL F [0, 1, 2, 3, 4] rfl
  apply W_pre [0, 1, 2] [3, 4]
  · (simp only [go_sem, Try.ntmps46, rI_flat, bh0f, hlen, bh9t, h9t, rH_get h9t, hbk, hcap, hnow]) <;> exact rfl
  apply W_call -- call 1 of function 71
  · (simp only [go_sem, Try.ntmps46, rI_flat, bh0f, hlen, bh9t, h9t, rH_get h9t, hbk, hcap, hnow]) <;> exact rfl
  · (simp only [go_sem, Try.ntmps46, rI_flat, bh0f, hlen, bh9t, h9t, rH_get h9t, hbk, hcap, hnow]) <;> exact rfl
  · exact rfl
  · (simp only [go_sem, Try.ntmps46, rI_flat, bh0f, hlen, bh9t, h9t, rH_get h9t, hbk, hcap, hnow]) <;> exact rfl
  · (simp only [go_sem, Try.ntmps46, rI_flat, bh0f, hlen, bh9t, h9t, rH_get h9t, hbk, hcap, hnow]) <;> exact rfl
  · exact ⟨_, Try.func71, rfl, rfl⟩
  · (simp only [go_sem, Try.ntmps46, rI_flat, bh0f, hlen, bh9t, h9t, rH_get h9t, hbk, hcap, hnow]) <;> exact rfl
  · (simp only [go_sem, Try.ntmps46, rI_flat, bh0f, hlen, bh9t, h9t, rH_get h9t, hbk, hcap, hnow]) <;> exact rfl
  · exact mv_different _ _ (by omega)
  apply W_run
  · (simp only [go_sem, Try.ntmps46, rI_flat, bh0f, hlen, bh9t, h9t, rH_get h9t, hbk, hcap, hnow]) <;> exact rfl
  apply W_nil
  apply K_seq
  apply T_if
  · (simp only [go_sem, Try.ntmps46, rI_flat, bh0f, hlen, bh9t, h9t, rH_get h9t, hbk, hcap, hnow]) <;> exact rfl
  · intro bh10t
    have h10t := bh10t
    try simp only [CS] at h10t
    try simp only [BS] at bh10t
    try exact absurd bh10t (by decide)
    all_goals (
  apply T_seq
  apply T_r F
  · (simp only [go_sem, Try.ntmps46, rI_flat, bh0f, hlen, bh9t, h9t, rH_get h9t, hbk, hcap, hnow, bh10t]) <;> exact rfl
  apply K_seq
  apply T_ret
  apply K_blkR
  apply K_seqR
  apply K_lpR
  apply K_blkR
  apply K_seqR
  apply fin_ret
  · (simp only [go_sem, Try.ntmps46, rI_flat, bh0f, hlen, bh9t, h9t, rH_get h9t, hbk, hcap, hnow, bh10t, Try.f46]) <;> exact rfl
  -- leaf 10 (ret)
  simp only [go_sem, Try.ntmps46, rI_flat, bh0f, hlen, bh9t, h9t, rH_get h9t, hbk, hcap, hnow, bh10t, V.bool.injEq, V.int.injEq, true_and]
  grind)
  · intro bh10f
    have h10f := bh10f
    try simp only [CS] at h10f
    try simp only [BS] at bh10f
    try exact absurd bh10f (by decide)
    all_goals (
  apply T_skip
  apply K_blk
  apply K_seq
  apply T_r F
  · (simp only [go_sem, Try.ntmps46, rI_flat, bh0f, hlen, bh9t, h9t, rH_get h9t, hbk, hcap, hnow, bh10f]) <;> exact rfl
  refine K_lpc (k + 1) 2 (Nat.zero_le _) ?_ ?_ ?_ ?_ ?_
  · (simp only [go_sem, Try.ntmps46, rI_flat, bh0f, hlen, bh9t, h9t, rH_get h9t, hbk, hcap, hnow, bh10f]) <;> decide
  · (simp only [go_sem, Try.ntmps46, rI_flat, bh0f, hlen, bh9t, h9t, rH_get h9t, hbk, hcap, hnow, bh10f, Nat.reduceLT, decide_true, Nat.zero_lt_one, Nat.zero_lt_succ]) <;> rfl
  · (simp only [go_sem, Try.ntmps46, rI_flat, bh0f, hlen, bh9t, h9t, rH_get h9t, hbk, hcap, hnow, bh10f, Nat.reduceLT, decide_true, Nat.zero_lt_one, Nat.zero_lt_succ]) <;> rfl
  · (simp only [go_sem, Try.ntmps46, rI_flat, bh0f, hlen, bh9t, h9t, rH_get h9t, hbk, hcap, hnow, bh10f]) <;> exact rfl
  -- leaf 11 (loop2)
  grind))
    · intro bh9f
      have h9f := bh9f
      try simp only [CS] at h9f
      try simp only [BS] at bh9f
      try exact absurd bh9f (by decide)
      all_goals (
  have htk : (M.now t).take k = M.now t := List.take_of_length_le (by simp [M.now]; omega)
  have hnl : (M.now t).length = k := by simp [M.now]; omega
  have hval := M.ok_valid hrows (fun a ha => hka a (by omega))
  apply T_exit
  apply K_seqE
  apply K_lpE
  apply K_blkE
  apply K_seq
  apply T_seq
  apply T_wL F [0, 1, 2, 3, 4, 5, 6, 7, 8, 9, 10, 11, 12, 13, 14, 15, 16, 17, 18, 19, 20, 21, 22, 23, 24, 25, 26, 27, 28, 29, 30, 31, 32, 33, 34, 35, 36, 37, 38, 39, 40, 41, 42, 43, 44, 45, 46, 47, 48, 49] rfl
  apply W_pre [0] [1, 2, 3, 4, 5, 6, 7, 8, 9, 10, 11, 12, 13, 14, 15, 16, 17, 18, 19, 20, 21, 22, 23, 24, 25, 26, 27, 28, 29, 30, 31, 32, 33, 34, 35, 36, 37, 38, 39, 40, 41, 42, 43, 44, 45, 46, 47, 48, 49]
  · (simp only [go_sem, Try.ntmps46, rI_flat, bh0f, hlen, bh9f, htk, hnl]) <;> exact rfl
  apply W_call -- call 2 of function 70
  · (simp only [go_sem, Try.ntmps46, rI_flat, bh0f, hlen, bh9f, htk, hnl]) <;> exact rfl
  · (simp only [go_sem, Try.ntmps46, rI_flat, bh0f, hlen, bh9f, htk, hnl]) <;> exact rfl
  · exact rfl
  · (simp only [go_sem, Try.ntmps46, rI_flat, bh0f, hlen, bh9f, htk, hnl]) <;> exact rfl
  · (simp only [go_sem, Try.ntmps46, rI_flat, bh0f, hlen, bh9f, htk, hnl]) <;> exact rfl
  · exact ⟨_, Try.func70, rfl, rfl⟩
  · (simp only [go_sem, Try.ntmps46, rI_flat, bh0f, hlen, bh9f, htk, hnl]) <;> exact rfl
  · (simp only [go_sem, Try.ntmps46, rI_flat, bh0f, hlen, bh9f, htk, hnl]) <;> exact rfl
  · exact mv_in _ _ _
  apply W_pre [2] [3, 4, 5, 6, 7, 8, 9, 10, 11, 12, 13, 14, 15, 16, 17, 18, 19, 20, 21, 22, 23, 24, 25, 26, 27, 28, 29, 30, 31, 32, 33, 34, 35, 36, 37, 38, 39, 40, 41, 42, 43, 44, 45, 46, 47, 48, 49]
  · (simp only [go_sem, Try.ntmps46, rI_flat, bh0f, hlen, bh9f, htk, hnl]) <;> exact rfl
  apply W_guard
  · (simp only [go_sem, Try.ntmps46, rI_flat, bh0f, hlen, bh9f, htk, hnl]) <;> exact rfl
  · (simp only [go_sem, Try.ntmps46, rI_flat, bh0f, hlen, bh9f, htk, hnl]) <;> exact rfl
  · intro bg5t
    have g5t := bg5t
    try simp only [CS] at g5t
    try simp only [BS] at bg5t
    try exact absurd bg5t (by decide)
    all_goals (
  apply W_pre [3, 4] [5, 6, 7, 8, 9, 10, 11, 12, 13, 14, 15, 16, 17, 18, 19, 20, 21, 22, 23, 24, 25, 26, 27, 28, 29, 30, 31, 32, 33, 34, 35, 36, 37, 38, 39, 40, 41, 42, 43, 44, 45, 46, 47, 48, 49]
  · (simp only [go_sem, Try.ntmps46, rI_flat, bh0f, hlen, bh9f, htk, hnl, bg5t]) <;> exact rfl
  apply W_call -- call 3 of function 70
  · (simp only [go_sem, Try.ntmps46, rI_flat, bh0f, hlen, bh9f, htk, hnl, bg5t]) <;> exact rfl
  · (simp only [go_sem, Try.ntmps46, rI_flat, bh0f, hlen, bh9f, htk, hnl, bg5t]) <;> exact rfl
  · exact rfl
  · (simp only [go_sem, Try.ntmps46, rI_flat, bh0f, hlen, bh9f, htk, hnl, bg5t]) <;> exact rfl
  · (simp only [go_sem, Try.ntmps46, rI_flat, bh0f, hlen, bh9f, htk, hnl, bg5t]) <;> exact rfl
  · exact ⟨_, Try.func70, rfl, rfl⟩
  · (simp only [go_sem, Try.ntmps46, rI_flat, bh0f, hlen, bh9f, htk, hnl, bg5t]) <;> exact rfl
  · (simp only [go_sem, Try.ntmps46, rI_flat, bh0f, hlen, bh9f, htk, hnl, bg5t]) <;> exact rfl
  · exact mv_in _ _ _
  apply W_pre [6, 7] [8, 9, 10, 11, 12, 13, 14, 15, 16, 17, 18, 19, 20, 21, 22, 23, 24, 25, 26, 27, 28, 29, 30, 31, 32, 33, 34, 35, 36, 37, 38, 39, 40, 41, 42, 43, 44, 45, 46, 47, 48, 49]
  · (simp only [go_sem, Try.ntmps46, rI_flat, bh0f, hlen, bh9f, htk, hnl, bg5t]) <;> exact rfl
  apply W_guard
  · (simp only [go_sem, Try.ntmps46, rI_flat, bh0f, hlen, bh9f, htk, hnl, bg5t]) <;> exact rfl
  · (simp only [go_sem, Try.ntmps46, rI_flat, bh0f, hlen, bh9f, htk, hnl, bg5t]) <;> exact rfl
  · intro bg6t
    have g6t := bg6t
    try simp only [CS] at g6t
    try simp only [BS] at bg6t
    try exact absurd bg6t (by decide)
    all_goals (
  apply W_pre [8, 9, 10] [11, 12, 13, 14, 15, 16, 17, 18, 19, 20, 21, 22, 23, 24, 25, 26, 27, 28, 29, 30, 31, 32, 33, 34, 35, 36, 37, 38, 39, 40, 41, 42, 43, 44, 45, 46, 47, 48, 49]
  · (simp only [go_sem, Try.ntmps46, rI_flat, bh0f, hlen, bh9f, htk, hnl, bg5t, bg6t]) <;> exact rfl
  apply W_call -- call 4 of function 71
  · (simp only [go_sem, Try.ntmps46, rI_flat, bh0f, hlen, bh9f, htk, hnl, bg5t, bg6t]) <;> exact rfl
  · (simp only [go_sem, Try.ntmps46, rI_flat, bh0f, hlen, bh9f, htk, hnl, bg5t, bg6t]) <;> exact rfl
  · exact rfl
  · (simp only [go_sem, Try.ntmps46, rI_flat, bh0f, hlen, bh9f, htk, hnl, bg5t, bg6t]) <;> exact rfl
  · (simp only [go_sem, Try.ntmps46, rI_flat, bh0f, hlen, bh9f, htk, hnl, bg5t, bg6t]) <;> exact rfl
  · exact ⟨_, Try.func71, rfl, rfl⟩
  · (simp only [go_sem, Try.ntmps46, rI_flat, bh0f, hlen, bh9f, htk, hnl, bg5t, bg6t]) <;> exact rfl
  · (simp only [go_sem, Try.ntmps46, rI_flat, bh0f, hlen, bh9f, htk, hnl, bg5t, bg6t]) <;> exact rfl
  · exact mv_different _ _ (by omega)
  apply W_pre [12, 13] [14, 15, 16, 17, 18, 19, 20, 21, 22, 23, 24, 25, 26, 27, 28, 29, 30, 31, 32, 33, 34, 35, 36, 37, 38, 39, 40, 41, 42, 43, 44, 45, 46, 47, 48, 49]
  · (simp only [go_sem, Try.ntmps46, rI_flat, bh0f, hlen, bh9f, htk, hnl, bg5t, bg6t]) <;> exact rfl
  apply W_guard
  · (simp only [go_sem, Try.ntmps46, rI_flat, bh0f, hlen, bh9f, htk, hnl, bg5t, bg6t]) <;> exact rfl
  · (simp only [go_sem, Try.ntmps46, rI_flat, bh0f, hlen, bh9f, htk, hnl, bg5t, bg6t]) <;> exact rfl
  · intro bg7t
    have g7t := bg7t
    try simp only [CS] at g7t
    try simp only [BS] at bg7t
    try exact absurd bg7t (by decide)
    all_goals (
  apply W_pre [14, 15] [16, 17, 18, 19, 20, 21, 22, 23, 24, 25, 26, 27, 28, 29, 30, 31, 32, 33, 34, 35, 36, 37, 38, 39, 40, 41, 42, 43, 44, 45, 46, 47, 48, 49]
  · (simp only [go_sem, Try.ntmps46, rI_flat, bh0f, hlen, bh9f, htk, hnl, bg5t, bg6t, bg7t]) <;> exact rfl
  apply W_call -- call 5 of function 72
  · (simp only [go_sem, Try.ntmps46, rI_flat, bh0f, hlen, bh9f, htk, hnl, bg5t, bg6t, bg7t]) <;> exact rfl
  · (simp only [go_sem, Try.ntmps46, rI_flat, bh0f, hlen, bh9f, htk, hnl, bg5t, bg6t, bg7t]) <;> exact rfl
  · exact rfl
  · (simp only [go_sem, Try.ntmps46, rI_flat, bh0f, hlen, bh9f, htk, hnl, bg5t, bg6t, bg7t]) <;> exact rfl
  · (simp only [go_sem, Try.ntmps46, rI_flat, bh0f, hlen, bh9f, htk, hnl, bg5t, bg6t, bg7t]) <;> exact rfl
  · exact ⟨_, Try.func72, rfl, rfl⟩
  · (simp only [go_sem, Try.ntmps46, rI_flat, bh0f, hlen, bh9f, htk, hnl, bg5t, bg6t, bg7t]) <;> exact rfl
  · (simp only [go_sem, Try.ntmps46, rI_flat, bh0f, hlen, bh9f, htk, hnl, bg5t, bg6t, bg7t]) <;> exact rfl
  · exact sl_sorted _
  apply W_pre [17, 18] [19, 20, 21, 22, 23, 24, 25, 26, 27, 28, 29, 30, 31, 32, 33, 34, 35, 36, 37, 38, 39, 40, 41, 42, 43, 44, 45, 46, 47, 48, 49]
  · (simp only [go_sem, Try.ntmps46, rI_flat, bh0f, hlen, bh9f, htk, hnl, bg5t, bg6t, bg7t]) <;> exact rfl
  apply W_guard
  · (simp only [go_sem, Try.ntmps46, rI_flat, bh0f, hlen, bh9f, htk, hnl, bg5t, bg6t, bg7t]) <;> exact rfl
  · (simp only [go_sem, Try.ntmps46, rI_flat, bh0f, hlen, bh9f, htk, hnl, bg5t, bg6t, bg7t]) <;> exact rfl
  · intro bg8t
    have g8t := bg8t
    try simp only [CS] at g8t
    try simp only [BS] at bg8t
    try exact absurd bg8t (by decide)
    all_goals (
  apply W_pre [19, 20, 21, 22] [23, 24, 25, 26, 27, 28, 29, 30, 31, 32, 33, 34, 35, 36, 37, 38, 39, 40, 41, 42, 43, 44, 45, 46, 47, 48, 49]
  · (simp only [go_sem, Try.ntmps46, rI_flat, bh0f, hlen, bh9f, htk, hnl, bg5t, bg6t, bg7t, bg8t]) <;> exact rfl
  apply W_pre [23, 24, 25] [26, 27, 28, 29, 30, 31, 32, 33, 34, 35, 36, 37, 38, 39, 40, 41, 42, 43, 44, 45, 46, 47, 48, 49]
  · (simp only [go_sem, Try.ntmps46, rI_flat, bh0f, hlen, bh9f, htk, hnl, bg5t, bg6t, bg7t, bg8t]) <;> exact rfl
  apply W_guard
  · (simp only [go_sem, Try.ntmps46, rI_flat, bh0f, hlen, bh9f, htk, hnl, bg5t, bg6t, bg7t, bg8t]) <;> exact rfl
  · (simp only [go_sem, Try.ntmps46, rI_flat, bh0f, hlen, bh9f, htk, hnl, bg5t, bg6t, bg7t, bg8t]) <;> exact rfl
  · intro bg9t
    have g9t := bg9t
    try simp only [CS] at g9t
    try simp only [BS] at bg9t
    try exact absurd bg9t (by decide)
    all_goals (
  apply W_pre [26, 27, 28] [29, 30, 31, 32, 33, 34, 35, 36, 37, 38, 39, 40, 41, 42, 43, 44, 45, 46, 47, 48, 49]
  · (simp only [go_sem, Try.ntmps46, rI_flat, bh0f, hlen, bh9f, htk, hnl, bg5t, bg6t, bg7t, bg8t, bg9t]) <;> exact rfl
  apply W_call -- call 6 of function 70
  · (simp only [go_sem, Try.ntmps46, rI_flat, bh0f, hlen, bh9f, htk, hnl, bg5t, bg6t, bg7t, bg8t, bg9t]) <;> exact rfl
  · (simp only [go_sem, Try.ntmps46, rI_flat, bh0f, hlen, bh9f, htk, hnl, bg5t, bg6t, bg7t, bg8t, bg9t]) <;> exact rfl
  · exact rfl
  · (simp only [go_sem, Try.ntmps46, rI_flat, bh0f, hlen, bh9f, htk, hnl, bg5t, bg6t, bg7t, bg8t, bg9t]) <;> exact rfl
  · (simp only [go_sem, Try.ntmps46, rI_flat, bh0f, hlen, bh9f, htk, hnl, bg5t, bg6t, bg7t, bg8t, bg9t]) <;> exact rfl
  · exact ⟨_, Try.func70, rfl, rfl⟩
  · (simp only [go_sem, Try.ntmps46, rI_flat, bh0f, hlen, bh9f, htk, hnl, bg5t, bg6t, bg7t, bg8t, bg9t]) <;> exact rfl
  · (simp only [go_sem, Try.ntmps46, rI_flat, bh0f, hlen, bh9f, htk, hnl, bg5t, bg6t, bg7t, bg8t, bg9t]) <;> exact rfl
  · exact mv_in _ _ _
  apply W_pre [30, 31] [32, 33, 34, 35, 36, 37, 38, 39, 40, 41, 42, 43, 44, 45, 46, 47, 48, 49]
  · (simp only [go_sem, Try.ntmps46, rI_flat, bh0f, hlen, bh9f, htk, hnl, bg5t, bg6t, bg7t, bg8t, bg9t]) <;> exact rfl
  apply W_guard
  · (simp only [go_sem, Try.ntmps46, rI_flat, bh0f, hlen, bh9f, htk, hnl, bg5t, bg6t, bg7t, bg8t, bg9t]) <;> exact rfl
  · (simp only [go_sem, Try.ntmps46, rI_flat, bh0f, hlen, bh9f, htk, hnl, bg5t, bg6t, bg7t, bg8t, bg9t]) <;> exact rfl
  · intro bg10t
    have g10t := bg10t
    try simp only [CS] at g10t
    try simp only [BS] at bg10t
    try exact absurd bg10t (by decide)
    all_goals (
  apply W_pre [32, 33] [34, 35, 36, 37, 38, 39, 40, 41, 42, 43, 44, 45, 46, 47, 48, 49]
  · (simp only [go_sem, Try.ntmps46, rI_flat, bh0f, hlen, bh9f, htk, hnl, bg5t, bg6t, bg7t, bg8t, bg9t, bg10t]) <;> exact rfl
  apply W_call -- call 7 of function 71
  · (simp only [go_sem, Try.ntmps46, rI_flat, bh0f, hlen, bh9f, htk, hnl, bg5t, bg6t, bg7t, bg8t, bg9t, bg10t]) <;> exact rfl
  · (simp only [go_sem, Try.ntmps46, rI_flat, bh0f, hlen, bh9f, htk, hnl, bg5t, bg6t, bg7t, bg8t, bg9t, bg10t]) <;> exact rfl
  · exact rfl
  · (simp only [go_sem, Try.ntmps46, rI_flat, bh0f, hlen, bh9f, htk, hnl, bg5t, bg6t, bg7t, bg8t, bg9t, bg10t]) <;> exact rfl
  · (simp only [go_sem, Try.ntmps46, rI_flat, bh0f, hlen, bh9f, htk, hnl, bg5t, bg6t, bg7t, bg8t, bg9t, bg10t]) <;> exact rfl
  · exact ⟨_, Try.func71, rfl, rfl⟩
  · (simp only [go_sem, Try.ntmps46, rI_flat, bh0f, hlen, bh9f, htk, hnl, bg5t, bg6t, bg7t, bg8t, bg9t, bg10t]) <;> exact rfl
  · (simp only [go_sem, Try.ntmps46, rI_flat, bh0f, hlen, bh9f, htk, hnl, bg5t, bg6t, bg7t, bg8t, bg9t, bg10t]) <;> exact rfl
  · exact mv_different _ _ (by omega)
  apply W_pre [35, 36] [37, 38, 39, 40, 41, 42, 43, 44, 45, 46, 47, 48, 49]
  · (simp only [go_sem, Try.ntmps46, rI_flat, bh0f, hlen, bh9f, htk, hnl, bg5t, bg6t, bg7t, bg8t, bg9t, bg10t]) <;> exact rfl
  apply W_guard
  · (simp only [go_sem, Try.ntmps46, rI_flat, bh0f, hlen, bh9f, htk, hnl, bg5t, bg6t, bg7t, bg8t, bg9t, bg10t]) <;> exact rfl
  · (simp only [go_sem, Try.ntmps46, rI_flat, bh0f, hlen, bh9f, htk, hnl, bg5t, bg6t, bg7t, bg8t, bg9t, bg10t]) <;> exact rfl
  · intro bg11t
    have g11t := bg11t
    try simp only [CS] at g11t
    try simp only [BS] at bg11t
    try exact absurd bg11t (by decide)
    all_goals (
  apply W_pre [37, 38, 39, 40, 41, 42] [43, 44, 45, 46, 47, 48, 49]
  · (simp only [go_sem, Try.ntmps46, rI_flat, bh0f, hlen, bh9f, htk, hnl, bg5t, bg6t, bg7t, bg8t, bg9t, bg10t, bg11t]) <;> exact rfl
  apply W_guard
  · (simp only [go_sem, Try.ntmps46, rI_flat, bh0f, hlen, bh9f, htk, hnl, bg5t, bg6t, bg7t, bg8t, bg9t, bg10t, bg11t]) <;> exact rfl
  · (simp only [go_sem, Try.ntmps46, rI_flat, bh0f, hlen, bh9f, htk, hnl, bg5t, bg6t, bg7t, bg8t, bg9t, bg10t, bg11t]) <;> exact rfl
  · intro bg12t
    have g12t := bg12t
    try simp only [CS] at g12t
    try simp only [BS] at bg12t
    try exact absurd bg12t (by decide)
    all_goals (
  have hkf := M.kins_first t
  apply W_pre [43, 44, 45] [46, 47, 48, 49]
  · (simp only [go_sem, Try.ntmps46, rI_flat, bh0f, hlen, bh9f, htk, hnl, bg5t, bg6t, bg7t, bg8t, bg9t, bg10t, bg11t, bg12t]) <;> exact rfl
  apply W_callS -- call 8
  · (simp only [go_sem, Try.ntmps46, rI_flat, bh0f, hlen, bh9f, htk, hnl, bg5t, bg6t, bg7t, bg8t, bg9t, bg10t, bg11t, bg12t]) <;> exact rfl
  · (simp only [go_sem, Try.ntmps46, rI_flat, bh0f, hlen, bh9f, htk, hnl, bg5t, bg6t, bg7t, bg8t, bg9t, bg10t, bg11t, bg12t]) <;> exact rfl
  · exact rfl
  · (simp only [go_sem, Try.ntmps46, rI_flat, bh0f, hlen, bh9f, htk, hnl, bg5t, bg6t, bg7t, bg8t, bg9t, bg10t, bg11t, bg12t]) <;> exact rfl
  · (simp only [go_sem, Try.ntmps46, rI_flat, bh0f, hlen, bh9f, htk, hnl, bg5t, bg6t, bg7t, bg8t, bg9t, bg10t, bg11t, bg12t]) <;> exact rfl
  · exact ⟨_, Try.func73, rfl, rfl⟩
  · exact sl_containsFuncP t.kin [.box 28 (cT t), .arr 3 1 (rI (M.now t)) true] 74 [] [.ptr 0 0] (fun k => !M.kinB t (M.kn t k).1 (M.kn t k).2) (closed_T t _ true) ⟨_, Try.func74, rfl, rfl⟩ hlk (fun k hk => by rw [M.kn_get hk]; exact mv_valid1 t [.box 28 (cT t), .arr 3 1 (rI (M.now t)) true] 0 (closed_T t _ true) rfl hh _ _)
  apply W_run
  · (simp only [go_sem, Try.ntmps46, rI_flat, bh0f, hlen, bh9f, htk, hnl, bg5t, bg6t, bg7t, bg8t, bg9t, bg10t, bg11t, bg12t]) <;> exact rfl
  apply W_nil
  apply K_seq
  apply T_ret
  apply fin_ret
  · (simp only [go_sem, Try.ntmps46, rI_flat, bh0f, hlen, bh9f, htk, hnl, bg5t, bg6t, bg7t, bg8t, bg9t, bg10t, bg11t, bg12t, Try.f46]) <;> exact rfl
  -- leaf 12 (ret)
  simp only [go_sem, Try.ntmps46, rI_flat, bh0f, hlen, bh9f, htk, hnl, bg5t, bg6t, bg7t, bg8t, bg9t, bg10t, bg11t, bg12t, V.bool.injEq, V.int.injEq, true_and]
  grind)
  · intro bg12f
    have g12f := bg12f
    try simp only [CS] at g12f
    try simp only [BS] at bg12f
    try exact absurd bg12f (by decide)
    all_goals (
  apply W_pre [43, 44, 45, 46] [47, 48, 49]
  · (simp only [go_sem, Try.ntmps46, rI_flat, bh0f, hlen, bh9f, htk, hnl, bg5t, bg6t, bg7t, bg8t, bg9t, bg10t, bg11t, bg12f]) <;> exact rfl
  apply W_run
  · (simp only [go_sem, Try.ntmps46, rI_flat, bh0f, hlen, bh9f, htk, hnl, bg5t, bg6t, bg7t, bg8t, bg9t, bg10t, bg11t, bg12f]) <;> exact rfl
  apply W_nil
  apply K_seq
  apply T_ret
  apply fin_ret
  · (simp only [go_sem, Try.ntmps46, rI_flat, bh0f, hlen, bh9f, htk, hnl, bg5t, bg6t, bg7t, bg8t, bg9t, bg10t, bg11t, bg12f, Try.f46]) <;> exact rfl
  -- leaf 13 (ret)
  simp only [go_sem, Try.ntmps46, rI_flat, bh0f, hlen, bh9f, htk, hnl, bg5t, bg6t, bg7t, bg8t, bg9t, bg10t, bg11t, bg12f, V.bool.injEq, V.int.injEq, true_and]
  grind))
  · intro bg11f
    have g11f := bg11f
    try simp only [CS] at g11f
    try simp only [BS] at bg11f
    try exact absurd bg11f (by decide)
    all_goals (
  apply W_pre [37, 38, 39, 40] [41, 42, 43, 44, 45, 46, 47, 48, 49]
  · (simp only [go_sem, Try.ntmps46, rI_flat, bh0f, hlen, bh9f, htk, hnl, bg5t, bg6t, bg7t, bg8t, bg9t, bg10t, bg11f]) <;> exact rfl
  apply W_pre [41, 42, 43, 44] [45, 46, 47, 48, 49]
  · (simp only [go_sem, Try.ntmps46, rI_flat, bh0f, hlen, bh9f, htk, hnl, bg5t, bg6t, bg7t, bg8t, bg9t, bg10t, bg11f]) <;> exact rfl
  apply W_run
  · (simp only [go_sem, Try.ntmps46, rI_flat, bh0f, hlen, bh9f, htk, hnl, bg5t, bg6t, bg7t, bg8t, bg9t, bg10t, bg11f]) <;> exact rfl
  apply W_nil
  apply K_seq
  apply T_ret
  apply fin_ret
  · (simp only [go_sem, Try.ntmps46, rI_flat, bh0f, hlen, bh9f, htk, hnl, bg5t, bg6t, bg7t, bg8t, bg9t, bg10t, bg11f, Try.f46]) <;> exact rfl
  -- leaf 14 (ret)
  simp only [go_sem, Try.ntmps46, rI_flat, bh0f, hlen, bh9f, htk, hnl, bg5t, bg6t, bg7t, bg8t, bg9t, bg10t, bg11f, V.bool.injEq, V.int.injEq, true_and]
  grind))
  · intro bg10f
    have g10f := bg10f
    try simp only [CS] at g10f
    try simp only [BS] at bg10f
    try exact absurd bg10f (by decide)
    all_goals (
  apply W_pre [32, 33, 34, 35] [36, 37, 38, 39, 40, 41, 42, 43, 44, 45, 46, 47, 48, 49]
  · (simp only [go_sem, Try.ntmps46, rI_flat, bh0f, hlen, bh9f, htk, hnl, bg5t, bg6t, bg7t, bg8t, bg9t, bg10f]) <;> exact rfl
  apply W_pre [36, 37, 38, 39] [40, 41, 42, 43, 44, 45, 46, 47, 48, 49]
  · (simp only [go_sem, Try.ntmps46, rI_flat, bh0f, hlen, bh9f, htk, hnl, bg5t, bg6t, bg7t, bg8t, bg9t, bg10f]) <;> exact rfl
  apply W_pre [40, 41, 42, 43] [44, 45, 46, 47, 48, 49]
  · (simp only [go_sem, Try.ntmps46, rI_flat, bh0f, hlen, bh9f, htk, hnl, bg5t, bg6t, bg7t, bg8t, bg9t, bg10f]) <;> exact rfl
  apply W_run
  · (simp only [go_sem, Try.ntmps46, rI_flat, bh0f, hlen, bh9f, htk, hnl, bg5t, bg6t, bg7t, bg8t, bg9t, bg10f]) <;> exact rfl
  apply W_nil
  apply K_seq
  apply T_ret
  apply fin_ret
  · (simp only [go_sem, Try.ntmps46, rI_flat, bh0f, hlen, bh9f, htk, hnl, bg5t, bg6t, bg7t, bg8t, bg9t, bg10f, Try.f46]) <;> exact rfl
  -- leaf 15 (ret)
  simp only [go_sem, Try.ntmps46, rI_flat, bh0f, hlen, bh9f, htk, hnl, bg5t, bg6t, bg7t, bg8t, bg9t, bg10f, V.bool.injEq, V.int.injEq, true_and]
  grind))
  · intro bg9f
    have g9f := bg9f
    try simp only [CS] at g9f
    try simp only [BS] at bg9f
    try exact absurd bg9f (by decide)
    all_goals (
  apply W_pre [26, 27, 28, 29] [30, 31, 32, 33, 34, 35, 36, 37, 38, 39, 40, 41, 42, 43, 44, 45, 46, 47, 48, 49]
  · (simp only [go_sem, Try.ntmps46, rI_flat, bh0f, hlen, bh9f, htk, hnl, bg5t, bg6t, bg7t, bg8t, bg9f]) <;> exact rfl
  apply W_pre [30, 31, 32, 33] [34, 35, 36, 37, 38, 39, 40, 41, 42, 43, 44, 45, 46, 47, 48, 49]
  · (simp only [go_sem, Try.ntmps46, rI_flat, bh0f, hlen, bh9f, htk, hnl, bg5t, bg6t, bg7t, bg8t, bg9f]) <;> exact rfl
  apply W_pre [34, 35, 36, 37] [38, 39, 40, 41, 42, 43, 44, 45, 46, 47, 48, 49]
  · (simp only [go_sem, Try.ntmps46, rI_flat, bh0f, hlen, bh9f, htk, hnl, bg5t, bg6t, bg7t, bg8t, bg9f]) <;> exact rfl
  apply W_pre [38, 39, 40, 41] [42, 43, 44, 45, 46, 47, 48, 49]
  · (simp only [go_sem, Try.ntmps46, rI_flat, bh0f, hlen, bh9f, htk, hnl, bg5t, bg6t, bg7t, bg8t, bg9f]) <;> exact rfl
  apply W_pre [42, 43, 44, 45] [46, 47, 48, 49]
  · (simp only [go_sem, Try.ntmps46, rI_flat, bh0f, hlen, bh9f, htk, hnl, bg5t, bg6t, bg7t, bg8t, bg9f]) <;> exact rfl
  apply W_run
  · (simp only [go_sem, Try.ntmps46, rI_flat, bh0f, hlen, bh9f, htk, hnl, bg5t, bg6t, bg7t, bg8t, bg9f]) <;> exact rfl
  apply W_nil
  apply K_seq
  apply T_ret
  apply fin_ret
  · (simp only [go_sem, Try.ntmps46, rI_flat, bh0f, hlen, bh9f, htk, hnl, bg5t, bg6t, bg7t, bg8t, bg9f, Try.f46]) <;> exact rfl
  -- leaf 16 (ret)
  simp only [go_sem, Try.ntmps46, rI_flat, bh0f, hlen, bh9f, htk, hnl, bg5t, bg6t, bg7t, bg8t, bg9f, V.bool.injEq, V.int.injEq, true_and]
  grind))
  · intro bg8f
    have g8f := bg8f
    try simp only [CS] at g8f
    try simp only [BS] at bg8f
    try exact absurd bg8f (by decide)
    all_goals (
  apply W_pre [19, 20, 21, 22] [23, 24, 25, 26, 27, 28, 29, 30, 31, 32, 33, 34, 35, 36, 37, 38, 39, 40, 41, 42, 43, 44, 45, 46, 47, 48, 49]
  · (simp only [go_sem, Try.ntmps46, rI_flat, bh0f, hlen, bh9f, htk, hnl, bg5t, bg6t, bg7t, bg8f]) <;> exact rfl
  apply W_pre [23, 24, 25, 26] [27, 28, 29, 30, 31, 32, 33, 34, 35, 36, 37, 38, 39, 40, 41, 42, 43, 44, 45, 46, 47, 48, 49]
  · (simp only [go_sem, Try.ntmps46, rI_flat, bh0f, hlen, bh9f, htk, hnl, bg5t, bg6t, bg7t, bg8f]) <;> exact rfl
  apply W_pre [27, 28, 29, 30] [31, 32, 33, 34, 35, 36, 37, 38, 39, 40, 41, 42, 43, 44, 45, 46, 47, 48, 49]
  · (simp only [go_sem, Try.ntmps46, rI_flat, bh0f, hlen, bh9f, htk, hnl, bg5t, bg6t, bg7t, bg8f]) <;> exact rfl
  apply W_pre [31, 32, 33, 34] [35, 36, 37, 38, 39, 40, 41, 42, 43, 44, 45, 46, 47, 48, 49]
  · (simp only [go_sem, Try.ntmps46, rI_flat, bh0f, hlen, bh9f, htk, hnl, bg5t, bg6t, bg7t, bg8f]) <;> exact rfl
  apply W_pre [35, 36, 37, 38] [39, 40, 41, 42, 43, 44, 45, 46, 47, 48, 49]
  · (simp only [go_sem, Try.ntmps46, rI_flat, bh0f, hlen, bh9f, htk, hnl, bg5t, bg6t, bg7t, bg8f]) <;> exact rfl
  apply W_pre [39, 40, 41, 42] [43, 44, 45, 46, 47, 48, 49]
  · (simp only [go_sem, Try.ntmps46, rI_flat, bh0f, hlen, bh9f, htk, hnl, bg5t, bg6t, bg7t, bg8f]) <;> exact rfl
  apply W_pre [43, 44, 45, 46] [47, 48, 49]
  · (simp only [go_sem, Try.ntmps46, rI_flat, bh0f, hlen, bh9f, htk, hnl, bg5t, bg6t, bg7t, bg8f]) <;> exact rfl
  apply W_run
  · (simp only [go_sem, Try.ntmps46, rI_flat, bh0f, hlen, bh9f, htk, hnl, bg5t, bg6t, bg7t, bg8f]) <;> exact rfl
  apply W_nil
  apply K_seq
  apply T_ret
  apply fin_ret
  · (simp only [go_sem, Try.ntmps46, rI_flat, bh0f, hlen, bh9f, htk, hnl, bg5t, bg6t, bg7t, bg8f, Try.f46]) <;> exact rfl
  -- leaf 17 (ret)
  simp only [go_sem, Try.ntmps46, rI_flat, bh0f, hlen, bh9f, htk, hnl, bg5t, bg6t, bg7t, bg8f, V.bool.injEq, V.int.injEq, true_and]
  grind))
  · intro bg7f
    have g7f := bg7f
    try simp only [CS] at g7f
    try simp only [BS] at bg7f
    try exact absurd bg7f (by decide)
    all_goals (
  apply W_pre [14, 15, 16, 17] [18, 19, 20, 21, 22, 23, 24, 25, 26, 27, 28, 29, 30, 31, 32, 33, 34, 35, 36, 37, 38, 39, 40, 41, 42, 43, 44, 45, 46, 47, 48, 49]
  · (simp only [go_sem, Try.ntmps46, rI_flat, bh0f, hlen, bh9f, htk, hnl, bg5t, bg6t, bg7f]) <;> exact rfl
  apply W_pre [18, 19, 20, 21] [22, 23, 24, 25, 26, 27, 28, 29, 30, 31, 32, 33, 34, 35, 36, 37, 38, 39, 40, 41, 42, 43, 44, 45, 46, 47, 48, 49]
  · (simp only [go_sem, Try.ntmps46, rI_flat, bh0f, hlen, bh9f, htk, hnl, bg5t, bg6t, bg7f]) <;> exact rfl
  apply W_pre [22, 23, 24, 25] [26, 27, 28, 29, 30, 31, 32, 33, 34, 35, 36, 37, 38, 39, 40, 41, 42, 43, 44, 45, 46, 47, 48, 49]
  · (simp only [go_sem, Try.ntmps46, rI_flat, bh0f, hlen, bh9f, htk, hnl, bg5t, bg6t, bg7f]) <;> exact rfl
  apply W_pre [26, 27, 28, 29] [30, 31, 32, 33, 34, 35, 36, 37, 38, 39, 40, 41, 42, 43, 44, 45, 46, 47, 48, 49]
  · (simp only [go_sem, Try.ntmps46, rI_flat, bh0f, hlen, bh9f, htk, hnl, bg5t, bg6t, bg7f]) <;> exact rfl
  apply W_pre [30, 31, 32, 33] [34, 35, 36, 37, 38, 39, 40, 41, 42, 43, 44, 45, 46, 47, 48, 49]
  · (simp only [go_sem, Try.ntmps46, rI_flat, bh0f, hlen, bh9f, htk, hnl, bg5t, bg6t, bg7f]) <;> exact rfl
  apply W_pre [34, 35, 36, 37] [38, 39, 40, 41, 42, 43, 44, 45, 46, 47, 48, 49]
  · (simp only [go_sem, Try.ntmps46, rI_flat, bh0f, hlen, bh9f, htk, hnl, bg5t, bg6t, bg7f]) <;> exact rfl
  apply W_pre [38, 39, 40, 41] [42, 43, 44, 45, 46, 47, 48, 49]
  · (simp only [go_sem, Try.ntmps46, rI_flat, bh0f, hlen, bh9f, htk, hnl, bg5t, bg6t, bg7f]) <;> exact rfl
  apply W_pre [42, 43, 44, 45] [46, 47, 48, 49]
  · (simp only [go_sem, Try.ntmps46, rI_flat, bh0f, hlen, bh9f, htk, hnl, bg5t, bg6t, bg7f]) <;> exact rfl
  apply W_run
  · (simp only [go_sem, Try.ntmps46, rI_flat, bh0f, hlen, bh9f, htk, hnl, bg5t, bg6t, bg7f]) <;> exact rfl
  apply W_nil
  apply K_seq
  apply T_ret
  apply fin_ret
  · (simp only [go_sem, Try.ntmps46, rI_flat, bh0f, hlen, bh9f, htk, hnl, bg5t, bg6t, bg7f, Try.f46]) <;> exact rfl
  -- leaf 18 (ret)
  simp only [go_sem, Try.ntmps46, rI_flat, bh0f, hlen, bh9f, htk, hnl, bg5t, bg6t, bg7f, V.bool.injEq, V.int.injEq, true_and]
  grind))
  · intro bg6f
    have g6f := bg6f
    try simp only [CS] at g6f
    try simp only [BS] at bg6f
    try exact absurd bg6f (by decide)
    all_goals (
  apply W_pre [8, 9, 10, 11] [12, 13, 14, 15, 16, 17, 18, 19, 20, 21, 22, 23, 24, 25, 26, 27, 28, 29, 30, 31, 32, 33, 34, 35, 36, 37, 38, 39, 40, 41, 42, 43, 44, 45, 46, 47, 48, 49]
  · (simp only [go_sem, Try.ntmps46, rI_flat, bh0f, hlen, bh9f, htk, hnl, bg5t, bg6f]) <;> exact rfl
  apply W_pre [12, 13, 14, 15] [16, 17, 18, 19, 20, 21, 22, 23, 24, 25, 26, 27, 28, 29, 30, 31, 32, 33, 34, 35, 36, 37, 38, 39, 40, 41, 42, 43, 44, 45, 46, 47, 48, 49]
  · (simp only [go_sem, Try.ntmps46, rI_flat, bh0f, hlen, bh9f, htk, hnl, bg5t, bg6f]) <;> exact rfl
  apply W_pre [16, 17, 18, 19] [20, 21, 22, 23, 24, 25, 26, 27, 28, 29, 30, 31, 32, 33, 34, 35, 36, 37, 38, 39, 40, 41, 42, 43, 44, 45, 46, 47, 48, 49]
  · (simp only [go_sem, Try.ntmps46, rI_flat, bh0f, hlen, bh9f, htk, hnl, bg5t, bg6f]) <;> exact rfl
  apply W_pre [20, 21, 22, 23] [24, 25, 26, 27, 28, 29, 30, 31, 32, 33, 34, 35, 36, 37, 38, 39, 40, 41, 42, 43, 44, 45, 46, 47, 48, 49]
  · (simp only [go_sem, Try.ntmps46, rI_flat, bh0f, hlen, bh9f, htk, hnl, bg5t, bg6f]) <;> exact rfl
  apply W_pre [24, 25, 26, 27] [28, 29, 30, 31, 32, 33, 34, 35, 36, 37, 38, 39, 40, 41, 42, 43, 44, 45, 46, 47, 48, 49]
  · (simp only [go_sem, Try.ntmps46, rI_flat, bh0f, hlen, bh9f, htk, hnl, bg5t, bg6f]) <;> exact rfl
  apply W_pre [28, 29, 30, 31] [32, 33, 34, 35, 36, 37, 38, 39, 40, 41, 42, 43, 44, 45, 46, 47, 48, 49]
  · (simp only [go_sem, Try.ntmps46, rI_flat, bh0f, hlen, bh9f, htk, hnl, bg5t, bg6f]) <;> exact rfl
  apply W_pre [32, 33, 34, 35] [36, 37, 38, 39, 40, 41, 42, 43, 44, 45, 46, 47, 48, 49]
  · (simp only [go_sem, Try.ntmps46, rI_flat, bh0f, hlen, bh9f, htk, hnl, bg5t, bg6f]) <;> exact rfl
  apply W_pre [36, 37, 38, 39] [40, 41, 42, 43, 44, 45, 46, 47, 48, 49]
  · (simp only [go_sem, Try.ntmps46, rI_flat, bh0f, hlen, bh9f, htk, hnl, bg5t, bg6f]) <;> exact rfl
  apply W_pre [40, 41, 42, 43] [44, 45, 46, 47, 48, 49]
  · (simp only [go_sem, Try.ntmps46, rI_flat, bh0f, hlen, bh9f, htk, hnl, bg5t, bg6f]) <;> exact rfl
  apply W_run
  · (simp only [go_sem, Try.ntmps46, rI_flat, bh0f, hlen, bh9f, htk, hnl, bg5t, bg6f]) <;> exact rfl
  apply W_nil
  apply K_seq
  apply T_ret
  apply fin_ret
  · (simp only [go_sem, Try.ntmps46, rI_flat, bh0f, hlen, bh9f, htk, hnl, bg5t, bg6f, Try.f46]) <;> exact rfl
  -- leaf 19 (ret)
  simp only [go_sem, Try.ntmps46, rI_flat, bh0f, hlen, bh9f, htk, hnl, bg5t, bg6f, V.bool.injEq, V.int.injEq, true_and]
  grind))
  · intro bg5f
    have g5f := bg5f
    try simp only [CS] at g5f
    try simp only [BS] at bg5f
    try exact absurd bg5f (by decide)
    all_goals (
  apply W_pre [3, 4, 5, 6] [7, 8, 9, 10, 11, 12, 13, 14, 15, 16, 17, 18, 19, 20, 21, 22, 23, 24, 25, 26, 27, 28, 29, 30, 31, 32, 33, 34, 35, 36, 37, 38, 39, 40, 41, 42, 43, 44, 45, 46, 47, 48, 49]
  · (simp only [go_sem, Try.ntmps46, rI_flat, bh0f, hlen, bh9f, htk, hnl, bg5f]) <;> exact rfl
  apply W_pre [7, 8, 9, 10] [11, 12, 13, 14, 15, 16, 17, 18, 19, 20, 21, 22, 23, 24, 25, 26, 27, 28, 29, 30, 31, 32, 33, 34, 35, 36, 37, 38, 39, 40, 41, 42, 43, 44, 45, 46, 47, 48, 49]
  · (simp only [go_sem, Try.ntmps46, rI_flat, bh0f, hlen, bh9f, htk, hnl, bg5f]) <;> exact rfl
  apply W_pre [11, 12, 13, 14] [15, 16, 17, 18, 19, 20, 21, 22, 23, 24, 25, 26, 27, 28, 29, 30, 31, 32, 33, 34, 35, 36, 37, 38, 39, 40, 41, 42, 43, 44, 45, 46, 47, 48, 49]
  · (simp only [go_sem, Try.ntmps46, rI_flat, bh0f, hlen, bh9f, htk, hnl, bg5f]) <;> exact rfl
  apply W_pre [15, 16, 17, 18] [19, 20, 21, 22, 23, 24, 25, 26, 27, 28, 29, 30, 31, 32, 33, 34, 35, 36, 37, 38, 39, 40, 41, 42, 43, 44, 45, 46, 47, 48, 49]
  · (simp only [go_sem, Try.ntmps46, rI_flat, bh0f, hlen, bh9f, htk, hnl, bg5f]) <;> exact rfl
  apply W_pre [19, 20, 21, 22] [23, 24, 25, 26, 27, 28, 29, 30, 31, 32, 33, 34, 35, 36, 37, 38, 39, 40, 41, 42, 43, 44, 45, 46, 47, 48, 49]
  · (simp only [go_sem, Try.ntmps46, rI_flat, bh0f, hlen, bh9f, htk, hnl, bg5f]) <;> exact rfl
  apply W_pre [23, 24, 25, 26] [27, 28, 29, 30, 31, 32, 33, 34, 35, 36, 37, 38, 39, 40, 41, 42, 43, 44, 45, 46, 47, 48, 49]
  · (simp only [go_sem, Try.ntmps46, rI_flat, bh0f, hlen, bh9f, htk, hnl, bg5f]) <;> exact rfl
  apply W_pre [27, 28, 29, 30] [31, 32, 33, 34, 35, 36, 37, 38, 39, 40, 41, 42, 43, 44, 45, 46, 47, 48, 49]
  · (simp only [go_sem, Try.ntmps46, rI_flat, bh0f, hlen, bh9f, htk, hnl, bg5f]) <;> exact rfl
  apply W_pre [31, 32, 33, 34] [35, 36, 37, 38, 39, 40, 41, 42, 43, 44, 45, 46, 47, 48, 49]
  · (simp only [go_sem, Try.ntmps46, rI_flat, bh0f, hlen, bh9f, htk, hnl, bg5f]) <;> exact rfl
  apply W_pre [35, 36, 37, 38] [39, 40, 41, 42, 43, 44, 45, 46, 47, 48, 49]
  · (simp only [go_sem, Try.ntmps46, rI_flat, bh0f, hlen, bh9f, htk, hnl, bg5f]) <;> exact rfl
  apply W_pre [39, 40, 41, 42] [43, 44, 45, 46, 47, 48, 49]
  · (simp only [go_sem, Try.ntmps46, rI_flat, bh0f, hlen, bh9f, htk, hnl, bg5f]) <;> exact rfl
  apply W_pre [43, 44, 45, 46] [47, 48, 49]
  · (simp only [go_sem, Try.ntmps46, rI_flat, bh0f, hlen, bh9f, htk, hnl, bg5f]) <;> exact rfl
  apply W_run
  · (simp only [go_sem, Try.ntmps46, rI_flat, bh0f, hlen, bh9f, htk, hnl, bg5f]) <;> exact rfl
  apply W_nil
  apply K_seq
  apply T_ret
  apply fin_ret
  · (simp only [go_sem, Try.ntmps46, rI_flat, bh0f, hlen, bh9f, htk, hnl, bg5f, Try.f46]) <;> exact rfl
  -- leaf 20 (ret)
  simp only [go_sem, Try.ntmps46, rI_flat, bh0f, hlen, bh9f, htk, hnl, bg5f, V.bool.injEq, V.int.injEq, true_and]
  grind)))

end Go.Ab
namespace Go.Ab
open Go Go.RowKit Go.Proofs Fac
set_option linter.unusedVariables false
set_option linter.unusedSimpArgs false
set_option maxRecDepth 4000
set_option maxHeartbeats 1000000

theorem mv_goes0 (t : Town) (p0 : List Int) (lot : Int) (h1 : 0 ≤ lot) (h2 : lot.toNat < t.gone.length) (h3 : t.houses.length ≤ 1000) (hh : 0 < t.houses.length) (hok : M.gone t lot = false ∧ ¬ M.rank t 0 lot < 0) : Ret Try.prog 100 [.agg (cW t p0), .nil, .int .i64 lot] (.sl 1 ([] ++ [[.int .i64 lot]])) := by
  have hgo : t.gone[lot.toNat] = M.gone t lot := (M.gone_get h2).symm
  have hcl := True.intro
  apply Ret_fin (fn := Try.f100) Try.func100 rfl
  apply T_seq
  apply T_r F
  · (simp only [go_sem, Try.ntmps100, cW_eq, h1, h1, h2, rB_get h2, hgo, hcl]) <;> exact rfl
  apply K_seq
  apply T_seq
  apply T_r F
  · (simp only [go_sem, Try.ntmps100, cW_eq, h1, h1, h2, rB_get h2, hgo, hcl]) <;> exact rfl
  apply K_seq
  apply T_seq
  apply T_seq
  apply T_wL F [0, 1, 2, 3, 4, 5, 6, 7, 8, 9, 10, 11, 12, 13, 14, 15, 16, 17] rfl
  apply W_pre [0, 1] [2, 3, 4, 5, 6, 7, 8, 9, 10, 11, 12, 13, 14, 15, 16, 17]
  · (simp only [go_sem, Try.ntmps100, cW_eq, h1, h1, h2, rB_get h2, hgo, hcl]) <;> exact rfl
  apply W_call -- call 0 of function 86
  · (simp only [go_sem, Try.ntmps100, cW_eq, h1, h1, h2, rB_get h2, hgo, hcl]) <;> exact rfl
  · (simp only [go_sem, Try.ntmps100, cW_eq, h1, h1, h2, rB_get h2, hgo, hcl]) <;> exact rfl
  · exact rfl
  · (simp only [go_sem, Try.ntmps100, cW_eq, h1, h1, h2, rB_get h2, hgo, hcl]) <;> exact rfl
  · (simp only [go_sem, Try.ntmps100, cW_eq, h1, h1, h2, rB_get h2, hgo, hcl]) <;> exact rfl
  · exact ⟨_, Try.func86, rfl, rfl⟩
  · (simp only [go_sem, Try.ntmps100, cW_eq, h1, h1, h2, rB_get h2, hgo, hcl]) <;> exact rfl
  · (simp only [go_sem, Try.ntmps100, cW_eq, h1, h1, h2, rB_get h2, hgo, hcl]) <;> exact rfl
  · exact Ret.wk (sl_contains [] lot) (.cons (.nil 1) (.cons (.refl _) .nil))
  apply W_pre [3] [4, 5, 6, 7, 8, 9, 10, 11, 12, 13, 14, 15, 16, 17]
  · (simp only [go_sem, Try.ntmps100, cW_eq, h1, h1, h2, rB_get h2, hgo, hcl]) <;> exact rfl
  apply W_guard
  · (simp only [go_sem, Try.ntmps100, cW_eq, h1, h1, h2, rB_get h2, hgo, hcl]) <;> exact rfl
  · (simp only [go_sem, Try.ntmps100, cW_eq, h1, h1, h2, rB_get h2, hgo, hcl]) <;> exact rfl
  · intro bg0t
    have g0t := bg0t
    try simp only [CS] at g0t
    try simp only [BS] at bg0t
    try exact absurd bg0t (by decide)
    all_goals (
  apply W_pre [4, 5, 6, 7] [8, 9, 10, 11, 12, 13, 14, 15, 16, 17]
  · (simp only [go_sem, Try.ntmps100, cW_eq, h1, h1, h2, rB_get h2, hgo, hcl, bg0t]) <;> exact rfl
  apply W_pre [8, 9, 10, 11] [12, 13, 14, 15, 16, 17]
  · (simp only [go_sem, Try.ntmps100, cW_eq, h1, h1, h2, rB_get h2, hgo, hcl, bg0t]) <;> exact rfl
  apply W_guard
  · (simp only [go_sem, Try.ntmps100, cW_eq, h1, h1, h2, rB_get h2, hgo, hcl, bg0t]) <;> exact rfl
  · (simp only [go_sem, Try.ntmps100, cW_eq, h1, h1, h2, rB_get h2, hgo, hcl, bg0t]) <;> exact rfl
  · intro bg1t
    have g1t := bg1t
    try simp only [CS] at g1t
    try simp only [BS] at bg1t
    try exact absurd bg1t (by decide)
    all_goals (
  apply W_pre [12, 13, 14] [15, 16, 17]
  · (simp only [go_sem, Try.ntmps100, cW_eq, h1, h1, h2, rB_get h2, hgo, hcl, bg0t, bg1t]) <;> exact rfl
  apply W_call -- call 1 of function 82
  · (simp only [go_sem, Try.ntmps100, cW_eq, h1, h1, h2, rB_get h2, hgo, hcl, bg0t, bg1t]) <;> exact rfl
  · (simp only [go_sem, Try.ntmps100, cW_eq, h1, h1, h2, rB_get h2, hgo, hcl, bg0t, bg1t]) <;> exact rfl
  · exact rfl
  · (simp only [go_sem, Try.ntmps100, cW_eq, h1, h1, h2, rB_get h2, hgo, hcl, bg0t, bg1t]) <;> exact rfl
  · (simp only [go_sem, Try.ntmps100, cW_eq, h1, h1, h2, rB_get h2, hgo, hcl, bg0t, bg1t]) <;> exact rfl
  · exact ⟨_, Try.func82, rfl, rfl⟩
  · (simp only [go_sem, Try.ntmps100, cW_eq, h1, h1, h2, rB_get h2, hgo, hcl, bg0t, bg1t]) <;> exact rfl
  · (simp only [go_sem, Try.ntmps100, cW_eq, h1, h1, h2, rB_get h2, hgo, hcl, bg0t, bg1t]) <;> exact rfl
  · exact mv_rank t p0 (0) lot hh
  apply W_run
  · (simp only [go_sem, Try.ntmps100, cW_eq, h1, h1, h2, rB_get h2, hgo, hcl, bg0t, bg1t]) <;> exact rfl
  apply W_nil
  apply K_seq
  apply T_if
  · (simp only [go_sem, Try.ntmps100, cW_eq, h1, h1, h2, rB_get h2, hgo, hcl, bg0t, bg1t]) <;> exact rfl
  · intro bh0t
    have h0t := bh0t
    try simp only [CS] at h0t
    all_goals (first | (simp_all; done) | omega)
  · intro bh0f
    have h0f := bh0f
    try simp only [CS] at h0f
    try simp only [BS] at bh0f
    try exact absurd bh0f (by decide)
    all_goals (
  apply T_skip
  apply K_seq
  apply T_seq
  apply T_wL F [0, 1, 2, 3, 4, 5] rfl
  apply W_pre [0] [1, 2, 3, 4, 5]
  · (simp only [go_sem, Try.ntmps100, cW_eq, h1, h1, h2, rB_get h2, hgo, hcl, bg0t, bg1t, bh0f]) <;> exact rfl
  apply W_call -- call 2 of function 102
  · (simp only [go_sem, Try.ntmps100, cW_eq, h1, h1, h2, rB_get h2, hgo, hcl, bg0t, bg1t, bh0f]) <;> exact rfl
  · (simp only [go_sem, Try.ntmps100, cW_eq, h1, h1, h2, rB_get h2, hgo, hcl, bg0t, bg1t, bh0f]) <;> exact rfl
  · exact rfl
  · (simp only [go_sem, Try.ntmps100, cW_eq, h1, h1, h2, rB_get h2, hgo, hcl, bg0t, bg1t, bh0f]) <;> exact rfl
  · (simp only [go_sem, Try.ntmps100, cW_eq, h1, h1, h2, rB_get h2, hgo, hcl, bg0t, bg1t, bh0f]) <;> exact rfl
  · exact ⟨_, Try.func102, rfl, rfl⟩
  · (simp only [go_sem, Try.ntmps100, cW_eq, h1, h1, h2, rB_get h2, hgo, hcl, bg0t, bg1t, bh0f]) <;> exact rfl
  · (simp only [go_sem, Try.ntmps100, cW_eq, h1, h1, h2, rB_get h2, hgo, hcl, bg0t, bg1t, bh0f]) <;> exact rfl
  · exact sl_cloneNil
  apply W_run
  · (simp only [go_sem, Try.ntmps100, cW_eq, h1, h1, h2, rB_get h2, hgo, hcl, bg0t, bg1t, bh0f]) <;> exact rfl
  apply W_nil
  apply K_seq
  apply T_ret
  apply fin_ret
  · (simp only [go_sem, Try.ntmps100, cW_eq, h1, h1, h2, rB_get h2, hgo, hcl, bg0t, bg1t, bh0f, Try.f100]) <;> exact rfl
  -- leaf 0 (ret)
  simp only [go_sem, Try.ntmps100, cW_eq, h1, h1, h2, rB_get h2, hgo, hcl, bg0t, bg1t, bh0f, V.bool.injEq, V.int.injEq, true_and]
  try rfl))
  · intro bg1f
    have g1f := bg1f
    try simp only [CS] at g1f
    try simp only [BS] at bg1f
    try exact absurd bg1f (by decide)
    all_goals (
  apply W_run
  · (simp only [go_sem, Try.ntmps100, cW_eq, h1, h1, h2, rB_get h2, hgo, hcl, bg0t, bg1f]) <;> exact rfl
  apply W_nil
  apply K_seq
  apply T_if
  · (simp only [go_sem, Try.ntmps100, cW_eq, h1, h1, h2, rB_get h2, hgo, hcl, bg0t, bg1f]) <;> exact rfl
  · intro bh1t
    have h1t := bh1t
    try simp only [CS] at h1t
    all_goals (first | (simp_all; done) | omega)
  · intro bh1f
    exact absurd bh1f (by simp)))
  · intro bg0f
    have g0f := bg0f
    try simp only [CS] at g0f
    try simp only [BS] at bg0f
    try exact absurd bg0f (by decide)
    all_goals (
  apply W_pre [4, 5, 6, 7] [8, 9, 10, 11, 12, 13, 14, 15, 16, 17]
  · (simp only [go_sem, Try.ntmps100, cW_eq, h1, h1, h2, rB_get h2, hgo, hcl, bg0f]) <;> exact rfl
  apply W_pre [8, 9, 10, 11] [12, 13, 14, 15, 16, 17]
  · (simp only [go_sem, Try.ntmps100, cW_eq, h1, h1, h2, rB_get h2, hgo, hcl, bg0f]) <;> exact rfl
  apply W_run
  · (simp only [go_sem, Try.ntmps100, cW_eq, h1, h1, h2, rB_get h2, hgo, hcl, bg0f]) <;> exact rfl
  apply W_nil
  apply K_seq
  apply T_if
  · (simp only [go_sem, Try.ntmps100, cW_eq, h1, h1, h2, rB_get h2, hgo, hcl, bg0f]) <;> exact rfl
  · intro bh2t
    have h2t := bh2t
    try simp only [CS] at h2t
    all_goals (first | (simp_all; done) | omega)
  · intro bh2f
    exact absurd bh2f (by simp))

theorem mv_goes0p (t : Town) (p0 : List Int) (lot : Int) (h1 : 0 ≤ lot) (h2 : lot.toNat < t.gone.length) (h3 : t.houses.length ≤ 1000) (hh : 0 < t.houses.length) (hok : M.gone t lot = true ∨ M.rank t 0 lot < 0) : Pan Try.prog 100 [.agg (cW t p0), .nil, .int .i64 lot] (.iface 114 (.agg #[.int .i64 ((0 : Nat) : Int)])) := by
  have hgo : t.gone[lot.toNat] = M.gone t lot := (M.gone_get h2).symm
  have hcl := True.intro
  apply Pan_intro (fn := Try.f100) Try.func100 rfl
  apply T_seq
  apply T_r F
  · (simp only [go_sem, Try.ntmps100, cW_eq, h1, h1, h2, rB_get h2, hgo, hcl]) <;> exact rfl
  apply K_seq
  apply T_seq
  apply T_r F
  · (simp only [go_sem, Try.ntmps100, cW_eq, h1, h1, h2, rB_get h2, hgo, hcl]) <;> exact rfl
  apply K_seq
  apply T_seq
  apply T_seq
  apply T_wL F [0, 1, 2, 3, 4, 5, 6, 7, 8, 9, 10, 11, 12, 13, 14, 15, 16, 17] rfl
  apply W_pre [0, 1] [2, 3, 4, 5, 6, 7, 8, 9, 10, 11, 12, 13, 14, 15, 16, 17]
  · (simp only [go_sem, Try.ntmps100, cW_eq, h1, h1, h2, rB_get h2, hgo, hcl]) <;> exact rfl
  apply W_call -- call 0 of function 86
  · (simp only [go_sem, Try.ntmps100, cW_eq, h1, h1, h2, rB_get h2, hgo, hcl]) <;> exact rfl
  · (simp only [go_sem, Try.ntmps100, cW_eq, h1, h1, h2, rB_get h2, hgo, hcl]) <;> exact rfl
  · exact rfl
  · (simp only [go_sem, Try.ntmps100, cW_eq, h1, h1, h2, rB_get h2, hgo, hcl]) <;> exact rfl
  · (simp only [go_sem, Try.ntmps100, cW_eq, h1, h1, h2, rB_get h2, hgo, hcl]) <;> exact rfl
  · exact ⟨_, Try.func86, rfl, rfl⟩
  · (simp only [go_sem, Try.ntmps100, cW_eq, h1, h1, h2, rB_get h2, hgo, hcl]) <;> exact rfl
  · (simp only [go_sem, Try.ntmps100, cW_eq, h1, h1, h2, rB_get h2, hgo, hcl]) <;> exact rfl
  · exact Ret.wk (sl_contains [] lot) (.cons (.nil 1) (.cons (.refl _) .nil))
  apply W_pre [3] [4, 5, 6, 7, 8, 9, 10, 11, 12, 13, 14, 15, 16, 17]
  · (simp only [go_sem, Try.ntmps100, cW_eq, h1, h1, h2, rB_get h2, hgo, hcl]) <;> exact rfl
  apply W_guard
  · (simp only [go_sem, Try.ntmps100, cW_eq, h1, h1, h2, rB_get h2, hgo, hcl]) <;> exact rfl
  · (simp only [go_sem, Try.ntmps100, cW_eq, h1, h1, h2, rB_get h2, hgo, hcl]) <;> exact rfl
  · intro bg0t
    have g0t := bg0t
    try simp only [CS] at g0t
    try simp only [BS] at bg0t
    try exact absurd bg0t (by decide)
    all_goals (
  apply W_pre [4, 5, 6, 7] [8, 9, 10, 11, 12, 13, 14, 15, 16, 17]
  · (simp only [go_sem, Try.ntmps100, cW_eq, h1, h1, h2, rB_get h2, hgo, hcl, bg0t]) <;> exact rfl
  apply W_pre [8, 9, 10, 11] [12, 13, 14, 15, 16, 17]
  · (simp only [go_sem, Try.ntmps100, cW_eq, h1, h1, h2, rB_get h2, hgo, hcl, bg0t]) <;> exact rfl
  apply W_guard
  · (simp only [go_sem, Try.ntmps100, cW_eq, h1, h1, h2, rB_get h2, hgo, hcl, bg0t]) <;> exact rfl
  · (simp only [go_sem, Try.ntmps100, cW_eq, h1, h1, h2, rB_get h2, hgo, hcl, bg0t]) <;> exact rfl
  · intro bg1t
    have g1t := bg1t
    try simp only [CS] at g1t
    try simp only [BS] at bg1t
    try exact absurd bg1t (by decide)
    all_goals (
  apply W_pre [12, 13, 14] [15, 16, 17]
  · (simp only [go_sem, Try.ntmps100, cW_eq, h1, h1, h2, rB_get h2, hgo, hcl, bg0t, bg1t]) <;> exact rfl
  apply W_call -- call 1 of function 82
  · (simp only [go_sem, Try.ntmps100, cW_eq, h1, h1, h2, rB_get h2, hgo, hcl, bg0t, bg1t]) <;> exact rfl
  · (simp only [go_sem, Try.ntmps100, cW_eq, h1, h1, h2, rB_get h2, hgo, hcl, bg0t, bg1t]) <;> exact rfl
  · exact rfl
  · (simp only [go_sem, Try.ntmps100, cW_eq, h1, h1, h2, rB_get h2, hgo, hcl, bg0t, bg1t]) <;> exact rfl
  · (simp only [go_sem, Try.ntmps100, cW_eq, h1, h1, h2, rB_get h2, hgo, hcl, bg0t, bg1t]) <;> exact rfl
  · exact ⟨_, Try.func82, rfl, rfl⟩
  · (simp only [go_sem, Try.ntmps100, cW_eq, h1, h1, h2, rB_get h2, hgo, hcl, bg0t, bg1t]) <;> exact rfl
  · (simp only [go_sem, Try.ntmps100, cW_eq, h1, h1, h2, rB_get h2, hgo, hcl, bg0t, bg1t]) <;> exact rfl
  · exact mv_rank t p0 (0) lot hh
  apply W_run
  · (simp only [go_sem, Try.ntmps100, cW_eq, h1, h1, h2, rB_get h2, hgo, hcl, bg0t, bg1t]) <;> exact rfl
  apply W_nil
  apply K_seq
  apply T_if
  · (simp only [go_sem, Try.ntmps100, cW_eq, h1, h1, h2, rB_get h2, hgo, hcl, bg0t, bg1t]) <;> exact rfl
  · intro bh0t
    have h0t := bh0t
    try simp only [CS] at h0t
    try simp only [BS] at bh0t
    try exact absurd bh0t (by decide)
    all_goals (
  apply T_panW F (l := [0, 1, 2]) (i := 3) rfl
  apply W_run
  · (simp only [go_sem, Try.ntmps100, cW_eq, h1, h1, h2, rB_get h2, hgo, hcl, bg0t, bg1t, bh0t]) <;> exact rfl
  apply W_nil
  refine ⟨_, _, _, _, rfl, rfl, rfl, rfl, rfl, ?_⟩
  apply K_seqP
  -- leaf 0 (pan)
  rfl)
  · intro bh0f
    have h0f := bh0f
    try simp only [CS] at h0f
    all_goals (first | (simp_all; done) | omega))
  · intro bg1f
    have g1f := bg1f
    try simp only [CS] at g1f
    try simp only [BS] at bg1f
    try exact absurd bg1f (by decide)
    all_goals (
  apply W_run
  · (simp only [go_sem, Try.ntmps100, cW_eq, h1, h1, h2, rB_get h2, hgo, hcl, bg0t, bg1f]) <;> exact rfl
  apply W_nil
  apply K_seq
  apply T_if
  · (simp only [go_sem, Try.ntmps100, cW_eq, h1, h1, h2, rB_get h2, hgo, hcl, bg0t, bg1f]) <;> exact rfl
  · intro bh1t
    have h1t := bh1t
    try simp only [CS] at h1t
    try simp only [BS] at bh1t
    try exact absurd bh1t (by decide)
    all_goals (
  apply T_panW F (l := [0, 1, 2]) (i := 3) rfl
  apply W_run
  · (simp only [go_sem, Try.ntmps100, cW_eq, h1, h1, h2, rB_get h2, hgo, hcl, bg0t, bg1f, bh1t]) <;> exact rfl
  apply W_nil
  refine ⟨_, _, _, _, rfl, rfl, rfl, rfl, rfl, ?_⟩
  apply K_seqP
  -- leaf 1 (pan)
  rfl)
  · intro bh1f
    exact absurd bh1f (by simp)))
  · intro bg0f
    have g0f := bg0f
    try simp only [CS] at g0f
    try simp only [BS] at bg0f
    try exact absurd bg0f (by decide)
    all_goals (
  apply W_pre [4, 5, 6, 7] [8, 9, 10, 11, 12, 13, 14, 15, 16, 17]
  · (simp only [go_sem, Try.ntmps100, cW_eq, h1, h1, h2, rB_get h2, hgo, hcl, bg0f]) <;> exact rfl
  apply W_pre [8, 9, 10, 11] [12, 13, 14, 15, 16, 17]
  · (simp only [go_sem, Try.ntmps100, cW_eq, h1, h1, h2, rB_get h2, hgo, hcl, bg0f]) <;> exact rfl
  apply W_run
  · (simp only [go_sem, Try.ntmps100, cW_eq, h1, h1, h2, rB_get h2, hgo, hcl, bg0f]) <;> exact rfl
  apply W_nil
  apply K_seq
  apply T_if
  · (simp only [go_sem, Try.ntmps100, cW_eq, h1, h1, h2, rB_get h2, hgo, hcl, bg0f]) <;> exact rfl
  · intro bh2t
    have h2t := bh2t
    try simp only [CS] at h2t
    try simp only [BS] at bh2t
    try exact absurd bh2t (by decide)
    all_goals (
  apply T_panW F (l := [0, 1, 2]) (i := 3) rfl
  apply W_run
  · (simp only [go_sem, Try.ntmps100, cW_eq, h1, h1, h2, rB_get h2, hgo, hcl, bg0f, bh2t]) <;> exact rfl
  apply W_nil
  refine ⟨_, _, _, _, rfl, rfl, rfl, rfl, rfl, ?_⟩
  apply K_seqP
  -- leaf 2 (pan)
  rfl)
  · intro bh2f
    exact absurd bh2f (by simp))

theorem mv_goes1 (t : Town) (p0 : List Int) (lot : Int) (h1 : 0 ≤ lot) (h2 : lot.toNat < t.gone.length) (h3 : t.houses.length ≤ 1000) (x : Int) (l : List Int) (hh : (x :: l).length < t.houses.length) (hok : (x :: l).contains lot = false ∧ M.gone t lot = false ∧ ¬ M.rank t (x :: l).length lot < 0) : Ret Try.prog 100 [.agg (cW t p0), .sl 1 (rI (x :: l)), .int .i64 lot] (.sl 1 (rI (x :: l) ++ [[.int .i64 lot]])) := by
  have hgo : t.gone[lot.toNat] = M.gone t lot := (M.gone_get h2).symm
  have hcl := rI_length (x :: l)
  have hap : rI (x :: l) ++ [[.int .i64 lot]] = rI ((x :: l) ++ [lot]) := by simp [rI]
  have hcap : (l.length + 1 + 1) * 8 ≤ 140737488355328 := by simp only [List.length_cons] at hh; omega
  obtain ⟨c, hcon⟩ : ∃ c, (x :: l).contains lot = c := ⟨_, rfl⟩
  rw [hcon] at hok
  apply Ret_fin (fn := Try.f100) Try.func100 rfl
  apply T_seq
  apply T_r F
  · (simp only [go_sem, Try.ntmps100, cW_eq, hcap, h1, h2, rB_get h2, hgo, hcl]) <;> exact rfl
  apply K_seq
  apply T_seq
  apply T_r F
  · (simp only [go_sem, Try.ntmps100, cW_eq, hcap, h1, h2, rB_get h2, hgo, hcl]) <;> exact rfl
  apply K_seq
  apply T_seq
  apply T_seq
  apply T_wL F [0, 1, 2, 3, 4, 5, 6, 7, 8, 9, 10, 11, 12, 13, 14, 15, 16, 17] rfl
  apply W_pre [0, 1] [2, 3, 4, 5, 6, 7, 8, 9, 10, 11, 12, 13, 14, 15, 16, 17]
  · (simp only [go_sem, Try.ntmps100, cW_eq, hcap, h1, h2, rB_get h2, hgo, hcl]) <;> exact rfl
  apply W_call -- call 0 of function 86
  · (simp only [go_sem, Try.ntmps100, cW_eq, hcap, h1, h2, rB_get h2, hgo, hcl]) <;> exact rfl
  · (simp only [go_sem, Try.ntmps100, cW_eq, hcap, h1, h2, rB_get h2, hgo, hcl]) <;> exact rfl
  · exact rfl
  · (simp only [go_sem, Try.ntmps100, cW_eq, hcap, h1, h2, rB_get h2, hgo, hcl]) <;> exact rfl
  · (simp only [go_sem, Try.ntmps100, cW_eq, hcap, h1, h2, rB_get h2, hgo, hcl]) <;> exact rfl
  · exact ⟨_, Try.func86, rfl, rfl⟩
  · (simp only [go_sem, Try.ntmps100, cW_eq, hcap, h1, h2, rB_get h2, hgo, hcl]) <;> exact rfl
  · (simp only [go_sem, Try.ntmps100, cW_eq, hcap, h1, h2, rB_get h2, hgo, hcl]) <;> exact rfl
  · exact hcon ▸ sl_contains (x :: l) lot
  apply W_pre [3] [4, 5, 6, 7, 8, 9, 10, 11, 12, 13, 14, 15, 16, 17]
  · (simp only [go_sem, Try.ntmps100, cW_eq, hcap, h1, h2, rB_get h2, hgo, hcl]) <;> exact rfl
  apply W_guard
  · (simp only [go_sem, Try.ntmps100, cW_eq, hcap, h1, h2, rB_get h2, hgo, hcl]) <;> exact rfl
  · (simp only [go_sem, Try.ntmps100, cW_eq, hcap, h1, h2, rB_get h2, hgo, hcl]) <;> exact rfl
  · intro bg0t
    have g0t := bg0t
    try simp only [CS] at g0t
    try simp only [BS] at bg0t
    try exact absurd bg0t (by decide)
    all_goals (
  apply W_pre [4, 5, 6, 7] [8, 9, 10, 11, 12, 13, 14, 15, 16, 17]
  · (simp only [go_sem, Try.ntmps100, cW_eq, hcap, h1, h2, rB_get h2, hgo, hcl, bg0t]) <;> exact rfl
  apply W_pre [8, 9, 10, 11] [12, 13, 14, 15, 16, 17]
  · (simp only [go_sem, Try.ntmps100, cW_eq, hcap, h1, h2, rB_get h2, hgo, hcl, bg0t]) <;> exact rfl
  apply W_guard
  · (simp only [go_sem, Try.ntmps100, cW_eq, hcap, h1, h2, rB_get h2, hgo, hcl, bg0t]) <;> exact rfl
  · (simp only [go_sem, Try.ntmps100, cW_eq, hcap, h1, h2, rB_get h2, hgo, hcl, bg0t]) <;> exact rfl
  · intro bg1t
    have g1t := bg1t
    try simp only [CS] at g1t
    try simp only [BS] at bg1t
    try exact absurd bg1t (by decide)
    all_goals (
  apply W_pre [12, 13, 14] [15, 16, 17]
  · (simp only [go_sem, Try.ntmps100, cW_eq, hcap, h1, h2, rB_get h2, hgo, hcl, bg0t, bg1t]) <;> exact rfl
  apply W_call -- call 1 of function 82
  · (simp only [go_sem, Try.ntmps100, cW_eq, hcap, h1, h2, rB_get h2, hgo, hcl, bg0t, bg1t]) <;> exact rfl
  · (simp only [go_sem, Try.ntmps100, cW_eq, hcap, h1, h2, rB_get h2, hgo, hcl, bg0t, bg1t]) <;> exact rfl
  · exact rfl
  · (simp only [go_sem, Try.ntmps100, cW_eq, hcap, h1, h2, rB_get h2, hgo, hcl, bg0t, bg1t]) <;> exact rfl
  · (simp only [go_sem, Try.ntmps100, cW_eq, hcap, h1, h2, rB_get h2, hgo, hcl, bg0t, bg1t]) <;> exact rfl
  · exact ⟨_, Try.func82, rfl, rfl⟩
  · (simp only [go_sem, Try.ntmps100, cW_eq, hcap, h1, h2, rB_get h2, hgo, hcl, bg0t, bg1t]) <;> exact rfl
  · (simp only [go_sem, Try.ntmps100, cW_eq, hcap, h1, h2, rB_get h2, hgo, hcl, bg0t, bg1t]) <;> exact rfl
  · exact mv_rank t p0 ((x :: l).length) lot hh
  apply W_run
  · (simp only [go_sem, Try.ntmps100, cW_eq, hcap, h1, h2, rB_get h2, hgo, hcl, bg0t, bg1t]) <;> exact rfl
  apply W_nil
  apply K_seq
  apply T_if
  · (simp only [go_sem, Try.ntmps100, cW_eq, hcap, h1, h2, rB_get h2, hgo, hcl, bg0t, bg1t]) <;> exact rfl
  · intro bh0t
    have h0t := bh0t
    try simp only [CS] at h0t
    all_goals (first | (simp_all; done) | omega)
  · intro bh0f
    have h0f := bh0f
    try simp only [CS] at h0f
    try simp only [BS] at bh0f
    try exact absurd bh0f (by decide)
    all_goals (
  apply T_skip
  apply K_seq
  apply T_seq
  apply T_wL F [0, 1, 2, 3, 4, 5] rfl
  apply W_pre [0] [1, 2, 3, 4, 5]
  · (simp only [go_sem, Try.ntmps100, cW_eq, hcap, h1, h2, rB_get h2, hgo, hcl, bg0t, bg1t, bh0f]) <;> exact rfl
  apply W_callS -- call 2
  · (simp only [go_sem, Try.ntmps100, cW_eq, hcap, h1, h2, rB_get h2, hgo, hcl, bg0t, bg1t, bh0f]) <;> exact rfl
  · (simp only [go_sem, Try.ntmps100, cW_eq, hcap, h1, h2, rB_get h2, hgo, hcl, bg0t, bg1t, bh0f]) <;> exact rfl
  · exact rfl
  · (simp only [go_sem, Try.ntmps100, cW_eq, hcap, h1, h2, rB_get h2, hgo, hcl, bg0t, bg1t, bh0f]) <;> exact rfl
  · (simp only [go_sem, Try.ntmps100, cW_eq, hcap, h1, h2, rB_get h2, hgo, hcl, bg0t, bg1t, bh0f]) <;> exact rfl
  · exact ⟨_, Try.func102, rfl, rfl⟩
  · exact sl_clone x l [.box 69 (cW t p0)] (closed_W t p0) (by simp only [List.length_cons] at hh ⊢; omega)
  apply W_run
  · (simp only [go_sem, Try.ntmps100, cW_eq, hcap, h1, h2, rB_get h2, hgo, hcl, bg0t, bg1t, bh0f]) <;> exact rfl
  apply W_nil
  apply K_seq
  apply T_ret
  apply fin_ret
  · (simp only [go_sem, Try.ntmps100, cW_eq, hcap, h1, h2, rB_get h2, hgo, hcl, bg0t, bg1t, bh0f, Try.f100]) <;> exact rfl
  -- leaf 0 (ret)
  simp only [go_sem, Try.ntmps100, cW_eq, hcap, h1, h2, rB_get h2, hgo, hcl, bg0t, bg1t, bh0f, V.bool.injEq, V.int.injEq, true_and]
  rw [if_pos ⟨by simp [rI_length], by rw [hap, rI_all]⟩]))
  · intro bg1f
    have g1f := bg1f
    try simp only [CS] at g1f
    try simp only [BS] at bg1f
    try exact absurd bg1f (by decide)
    all_goals (
  apply W_run
  · (simp only [go_sem, Try.ntmps100, cW_eq, hcap, h1, h2, rB_get h2, hgo, hcl, bg0t, bg1f]) <;> exact rfl
  apply W_nil
  apply K_seq
  apply T_if
  · (simp only [go_sem, Try.ntmps100, cW_eq, hcap, h1, h2, rB_get h2, hgo, hcl, bg0t, bg1f]) <;> exact rfl
  · intro bh1t
    have h1t := bh1t
    try simp only [CS] at h1t
    all_goals (first | (simp_all; done) | omega)
  · intro bh1f
    exact absurd bh1f (by simp)))
  · intro bg0f
    have g0f := bg0f
    try simp only [CS] at g0f
    try simp only [BS] at bg0f
    try exact absurd bg0f (by decide)
    all_goals (
  apply W_pre [4, 5, 6, 7] [8, 9, 10, 11, 12, 13, 14, 15, 16, 17]
  · (simp only [go_sem, Try.ntmps100, cW_eq, hcap, h1, h2, rB_get h2, hgo, hcl, bg0f]) <;> exact rfl
  apply W_pre [8, 9, 10, 11] [12, 13, 14, 15, 16, 17]
  · (simp only [go_sem, Try.ntmps100, cW_eq, hcap, h1, h2, rB_get h2, hgo, hcl, bg0f]) <;> exact rfl
  apply W_run
  · (simp only [go_sem, Try.ntmps100, cW_eq, hcap, h1, h2, rB_get h2, hgo, hcl, bg0f]) <;> exact rfl
  apply W_nil
  apply K_seq
  apply T_if
  · (simp only [go_sem, Try.ntmps100, cW_eq, hcap, h1, h2, rB_get h2, hgo, hcl, bg0f]) <;> exact rfl
  · intro bh2t
    have h2t := bh2t
    try simp only [CS] at h2t
    all_goals (first | (simp_all; done) | omega)
  · intro bh2f
    exact absurd bh2f (by simp))

theorem mv_goes1p (t : Town) (p0 : List Int) (lot : Int) (h1 : 0 ≤ lot) (h2 : lot.toNat < t.gone.length) (h3 : t.houses.length ≤ 1000) (x : Int) (l : List Int) (hh : (x :: l).length < t.houses.length) (hok : (x :: l).contains lot = true ∨ M.gone t lot = true ∨ M.rank t (x :: l).length lot < 0) : Pan Try.prog 100 [.agg (cW t p0), .sl 1 (rI (x :: l)), .int .i64 lot] (.iface 114 (.agg #[.int .i64 (((x :: l).length : Nat) : Int)])) := by
  have hgo : t.gone[lot.toNat] = M.gone t lot := (M.gone_get h2).symm
  have hcl := rI_length (x :: l)
  have hap : rI (x :: l) ++ [[.int .i64 lot]] = rI ((x :: l) ++ [lot]) := by simp [rI]
  have hcap : (l.length + 1 + 1) * 8 ≤ 140737488355328 := by simp only [List.length_cons] at hh; omega
  obtain ⟨c, hcon⟩ : ∃ c, (x :: l).contains lot = c := ⟨_, rfl⟩
  rw [hcon] at hok
  apply Pan_intro (fn := Try.f100) Try.func100 rfl
  apply T_seq
  apply T_r F
  · (simp only [go_sem, Try.ntmps100, cW_eq, hcap, h1, h2, rB_get h2, hgo, hcl]) <;> exact rfl
  apply K_seq
  apply T_seq
  apply T_r F
  · (simp only [go_sem, Try.ntmps100, cW_eq, hcap, h1, h2, rB_get h2, hgo, hcl]) <;> exact rfl
  apply K_seq
  apply T_seq
  apply T_seq
  apply T_wL F [0, 1, 2, 3, 4, 5, 6, 7, 8, 9, 10, 11, 12, 13, 14, 15, 16, 17] rfl
  apply W_pre [0, 1] [2, 3, 4, 5, 6, 7, 8, 9, 10, 11, 12, 13, 14, 15, 16, 17]
  · (simp only [go_sem, Try.ntmps100, cW_eq, hcap, h1, h2, rB_get h2, hgo, hcl]) <;> exact rfl
  apply W_call -- call 0 of function 86
  · (simp only [go_sem, Try.ntmps100, cW_eq, hcap, h1, h2, rB_get h2, hgo, hcl]) <;> exact rfl
  · (simp only [go_sem, Try.ntmps100, cW_eq, hcap, h1, h2, rB_get h2, hgo, hcl]) <;> exact rfl
  · exact rfl
  · (simp only [go_sem, Try.ntmps100, cW_eq, hcap, h1, h2, rB_get h2, hgo, hcl]) <;> exact rfl
  · (simp only [go_sem, Try.ntmps100, cW_eq, hcap, h1, h2, rB_get h2, hgo, hcl]) <;> exact rfl
  · exact ⟨_, Try.func86, rfl, rfl⟩
  · (simp only [go_sem, Try.ntmps100, cW_eq, hcap, h1, h2, rB_get h2, hgo, hcl]) <;> exact rfl
  · (simp only [go_sem, Try.ntmps100, cW_eq, hcap, h1, h2, rB_get h2, hgo, hcl]) <;> exact rfl
  · exact hcon ▸ sl_contains (x :: l) lot
  apply W_pre [3] [4, 5, 6, 7, 8, 9, 10, 11, 12, 13, 14, 15, 16, 17]
  · (simp only [go_sem, Try.ntmps100, cW_eq, hcap, h1, h2, rB_get h2, hgo, hcl]) <;> exact rfl
  apply W_guard
  · (simp only [go_sem, Try.ntmps100, cW_eq, hcap, h1, h2, rB_get h2, hgo, hcl]) <;> exact rfl
  · (simp only [go_sem, Try.ntmps100, cW_eq, hcap, h1, h2, rB_get h2, hgo, hcl]) <;> exact rfl
  · intro bg0t
    have g0t := bg0t
    try simp only [CS] at g0t
    try simp only [BS] at bg0t
    try exact absurd bg0t (by decide)
    all_goals (
  apply W_pre [4, 5, 6, 7] [8, 9, 10, 11, 12, 13, 14, 15, 16, 17]
  · (simp only [go_sem, Try.ntmps100, cW_eq, hcap, h1, h2, rB_get h2, hgo, hcl, bg0t]) <;> exact rfl
  apply W_pre [8, 9, 10, 11] [12, 13, 14, 15, 16, 17]
  · (simp only [go_sem, Try.ntmps100, cW_eq, hcap, h1, h2, rB_get h2, hgo, hcl, bg0t]) <;> exact rfl
  apply W_guard
  · (simp only [go_sem, Try.ntmps100, cW_eq, hcap, h1, h2, rB_get h2, hgo, hcl, bg0t]) <;> exact rfl
  · (simp only [go_sem, Try.ntmps100, cW_eq, hcap, h1, h2, rB_get h2, hgo, hcl, bg0t]) <;> exact rfl
  · intro bg1t
    have g1t := bg1t
    try simp only [CS] at g1t
    try simp only [BS] at bg1t
    try exact absurd bg1t (by decide)
    all_goals (
  apply W_pre [12, 13, 14] [15, 16, 17]
  · (simp only [go_sem, Try.ntmps100, cW_eq, hcap, h1, h2, rB_get h2, hgo, hcl, bg0t, bg1t]) <;> exact rfl
  apply W_call -- call 1 of function 82
  · (simp only [go_sem, Try.ntmps100, cW_eq, hcap, h1, h2, rB_get h2, hgo, hcl, bg0t, bg1t]) <;> exact rfl
  · (simp only [go_sem, Try.ntmps100, cW_eq, hcap, h1, h2, rB_get h2, hgo, hcl, bg0t, bg1t]) <;> exact rfl
  · exact rfl
  · (simp only [go_sem, Try.ntmps100, cW_eq, hcap, h1, h2, rB_get h2, hgo, hcl, bg0t, bg1t]) <;> exact rfl
  · (simp only [go_sem, Try.ntmps100, cW_eq, hcap, h1, h2, rB_get h2, hgo, hcl, bg0t, bg1t]) <;> exact rfl
  · exact ⟨_, Try.func82, rfl, rfl⟩
  · (simp only [go_sem, Try.ntmps100, cW_eq, hcap, h1, h2, rB_get h2, hgo, hcl, bg0t, bg1t]) <;> exact rfl
  · (simp only [go_sem, Try.ntmps100, cW_eq, hcap, h1, h2, rB_get h2, hgo, hcl, bg0t, bg1t]) <;> exact rfl
  · exact mv_rank t p0 ((x :: l).length) lot hh
  apply W_run
  · (simp only [go_sem, Try.ntmps100, cW_eq, hcap, h1, h2, rB_get h2, hgo, hcl, bg0t, bg1t]) <;> exact rfl
  apply W_nil
  apply K_seq
  apply T_if
  · (simp only [go_sem, Try.ntmps100, cW_eq, hcap, h1, h2, rB_get h2, hgo, hcl, bg0t, bg1t]) <;> exact rfl
  · intro bh0t
    have h0t := bh0t
    try simp only [CS] at h0t
    try simp only [BS] at bh0t
    try exact absurd bh0t (by decide)
    all_goals (
  apply T_panW F (l := [0, 1, 2]) (i := 3) rfl
  apply W_run
  · (simp only [go_sem, Try.ntmps100, cW_eq, hcap, h1, h2, rB_get h2, hgo, hcl, bg0t, bg1t, bh0t]) <;> exact rfl
  apply W_nil
  refine ⟨_, _, _, _, rfl, rfl, rfl, rfl, rfl, ?_⟩
  apply K_seqP
  -- leaf 0 (pan)
  rfl)
  · intro bh0f
    have h0f := bh0f
    try simp only [CS] at h0f
    all_goals (first | (simp_all; done) | omega))
  · intro bg1f
    have g1f := bg1f
    try simp only [CS] at g1f
    try simp only [BS] at bg1f
    try exact absurd bg1f (by decide)
    all_goals (
  apply W_run
  · (simp only [go_sem, Try.ntmps100, cW_eq, hcap, h1, h2, rB_get h2, hgo, hcl, bg0t, bg1f]) <;> exact rfl
  apply W_nil
  apply K_seq
  apply T_if
  · (simp only [go_sem, Try.ntmps100, cW_eq, hcap, h1, h2, rB_get h2, hgo, hcl, bg0t, bg1f]) <;> exact rfl
  · intro bh1t
    have h1t := bh1t
    try simp only [CS] at h1t
    try simp only [BS] at bh1t
    try exact absurd bh1t (by decide)
    all_goals (
  apply T_panW F (l := [0, 1, 2]) (i := 3) rfl
  apply W_run
  · (simp only [go_sem, Try.ntmps100, cW_eq, hcap, h1, h2, rB_get h2, hgo, hcl, bg0t, bg1f, bh1t]) <;> exact rfl
  apply W_nil
  refine ⟨_, _, _, _, rfl, rfl, rfl, rfl, rfl, ?_⟩
  apply K_seqP
  -- leaf 1 (pan)
  rfl)
  · intro bh1f
    exact absurd bh1f (by simp)))
  · intro bg0f
    have g0f := bg0f
    try simp only [CS] at g0f
    try simp only [BS] at bg0f
    try exact absurd bg0f (by decide)
    all_goals (
  apply W_pre [4, 5, 6, 7] [8, 9, 10, 11, 12, 13, 14, 15, 16, 17]
  · (simp only [go_sem, Try.ntmps100, cW_eq, hcap, h1, h2, rB_get h2, hgo, hcl, bg0f]) <;> exact rfl
  apply W_pre [8, 9, 10, 11] [12, 13, 14, 15, 16, 17]
  · (simp only [go_sem, Try.ntmps100, cW_eq, hcap, h1, h2, rB_get h2, hgo, hcl, bg0f]) <;> exact rfl
  apply W_run
  · (simp only [go_sem, Try.ntmps100, cW_eq, hcap, h1, h2, rB_get h2, hgo, hcl, bg0f]) <;> exact rfl
  apply W_nil
  apply K_seq
  apply T_if
  · (simp only [go_sem, Try.ntmps100, cW_eq, hcap, h1, h2, rB_get h2, hgo, hcl, bg0f]) <;> exact rfl
  · intro bh2t
    have h2t := bh2t
    try simp only [CS] at h2t
    try simp only [BS] at bh2t
    try exact absurd bh2t (by decide)
    all_goals (
  apply T_panW F (l := [0, 1, 2]) (i := 3) rfl
  apply W_run
  · (simp only [go_sem, Try.ntmps100, cW_eq, hcap, h1, h2, rB_get h2, hgo, hcl, bg0f, bh2t]) <;> exact rfl
  apply W_nil
  refine ⟨_, _, _, _, rfl, rfl, rfl, rfl, rfl, ?_⟩
  apply K_seqP
  -- leaf 2 (pan)
  rfl)
  · intro bh2f
    exact absurd bh2f (by simp))

end Go.Ab
namespace Go.Ab
open Go Go.RowKit Go.Proofs Fac
set_option linter.unusedVariables false
set_option linter.unusedSimpArgs false
set_option maxRecDepth 4000
set_option maxHeartbeats 1000000
def lots (n : Int) : Value := .iface 114 (.agg #[.int .i64 n])
theorem mv_catch0 (o : AObj) (b : Bool) (hc : Closed [o, .box 4 [.bool b]]) : DfrS Try.prog 99 [.ptr 1 0] [o, .box 4 [.bool b]] .returning .returning [o, .box 4 [.bool b]] := by
  refine DfrS_intro (fn := Try.f99) (v := .nilif) (uv := .nilIface) Try.func99 rfl rfl rfl rfl rfl (fun c cs hm => .inl ⟨by simp [recoverD, hm], rfl, rfl⟩) (fun E => by simp only [Rel]) ?_
  apply T_block
  apply T_seq
  apply T_r F
  · (simp only [go_sem, Try.ntmps99]) <;> exact rfl
  apply K_seq
  apply T_if
  · exact rfl
  · intro _
    apply T_r F
    · (simp only [go_sem, Try.ntmps99]) <;> exact rfl
    apply K_blk
    exact ⟨.inl rfl, 2, by simp, by simp, rfl, hc⟩
  · intro h
    exact absurd h (by decide)
theorem mv_catch1 (o : AObj) (b : Bool) (n : Int) (hc : Closed [o, .box 4 [.bool false]]) : DfrS Try.prog 99 [.ptr 1 0] [o, .box 4 [.bool b]] (.panicking (chainOf (lots n))) (.panicking [{ v := lots n, recovered := true }]) [o, .box 4 [.bool false]] := by
  refine DfrS_intro (fn := Try.f99) (v := .iface 114 (.agg [.int .i64 n])) (uv := lots n) Try.func99 rfl rfl rfl rfl rfl (fun c cs hm => .inr (by simp [recoverD, hm, chainOf])) (fun E => by simp [lots, Rel, RelL]) ?_
  apply T_block
  apply T_seq
  apply T_r F
  · (simp only [go_sem, Try.ntmps99]) <;> exact rfl
  apply K_seq
  apply T_if
  · exact rfl
  · intro h
    exact absurd h (by decide)
  · intro _
    apply T_seq
    apply T_r F
    · (simp only [go_sem, Try.ntmps99]) <;> exact rfl
    apply K_seq
    apply T_if
    · exact rfl
    · intro _
      apply T_seq
      apply T_r F
      · (simp only [go_sem, Try.ntmps99]) <;> exact rfl
      apply K_seq
      apply T_r F
      · (simp only [go_sem, Try.ntmps99]) <;> exact rfl
      apply K_blk
      exact ⟨.inl rfl, 2, by simp, by simp, rfl, hc⟩
    · intro h
      exact absurd h (by decide)
end Go.Ab
namespace Go.Ab
open Go Go.RowKit Go.Proofs Fac
set_option linter.unusedVariables false
set_option linter.unusedSimpArgs false
set_option maxRecDepth 4000
set_option maxHeartbeats 1000000
theorem closed_B (t : Town) (p : List Int) (b : Bool) : Closed [.box 69 (cW t p), .box 4 [.bool b]] := by
  intro o ho
  simp only [List.mem_cons, List.not_mem_nil, or_false] at ho
  rcases ho with rfl | rfl
  · simp only [AObj.all, cW, V.allL, V.all, rI_all, rB_all, rL_all, rH_all, rP_all, Bool.and_self]
  · rfl
theorem mv_gone1ok0 (t : Town) (p0 : List Int) (lot : Int) (m : List Int) (hg : Ret Try.prog 100 [.agg (cW t p0), .nil, .int .i64 lot] (.sl 1 (rI m))) : Ret Try.prog 84 [.agg (cW t p0), .nil, .int .i64 lot] (.tup [.sl 1 (rI m), .bool true]) := by
  rw [cW_eq] at *
  refine Ret_defer (F := F) (fn := Try.f84) (l1 := [0]) (i := 1) (gd := 99) (first := []) (caps := [.ptr 1 0]) (sA := ⟨[.agg (cW t p0), .nil, .int .i64 lot, .ptr 0 0, .undef, .undef, .nil, .ptr 1 0, .undef, .undef, .undef, .undef, .undef], [.box 69 (cW t p0), .box 4 [.bool false]]⟩) (sR := ⟨[.agg (cW t p0), .nil, .int .i64 lot, .ptr 0 0, .undef, .undef, .nil, .ptr 1 0, .fn 99 [] [.ptr 1 0], .undef, .undef, .undef, .undef], [.box 69 (cW t p0), .box 4 [.bool false]]⟩) Try.func84 rfl ?_ ?_ rfl rfl rfl rfl rfl ⟨_, Try.func99, rfl, rfl⟩ ?_
  · apply T_r F
    · (simp only [go_sem, Try.ntmps84, cW_eq]) <;> exact rfl
    exact ⟨rfl, rfl⟩
  · apply RunR.of_W
    apply W_run
    · (simp only [go_sem, Try.ntmps84, cW_eq]) <;> exact rfl
    apply W_nil
    exact rfl
  · apply T_seq
    apply T_wL F [0, 1, 2, 3, 4, 5] rfl
    apply W_pre [0, 1, 2] [3, 4, 5]
    · (simp only [go_sem, Try.ntmps84, cW_eq]) <;> exact rfl
    apply W_call
    · (simp only [go_sem, Try.ntmps84, cW_eq]) <;> exact rfl
    · (simp only [go_sem, Try.ntmps84, cW_eq]) <;> exact rfl
    · exact rfl
    · (simp only [go_sem, Try.ntmps84, cW_eq]) <;> exact rfl
    · (simp only [go_sem, Try.ntmps84, cW_eq]) <;> exact rfl
    · exact ⟨_, Try.func100, rfl, rfl⟩
    · (simp only [go_sem, Try.ntmps84, cW_eq]) <;> exact rfl
    · (simp only [go_sem, Try.ntmps84, cW_eq]) <;> exact rfl
    · exact hg
    apply W_run
    · (simp only [go_sem, Try.ntmps84, cW_eq]) <;> exact rfl
    apply W_nil
    apply K_seq
    apply T_ret
    refine ⟨_, _, .inl ⟨.inr rfl, mv_catch0 _ true (closed_B t p0 true)⟩, rfl, ?_⟩
    simp only [go_sem]
theorem mv_gone1no0 (t : Town) (p0 : List Int) (lot : Int) (n : Int) (hg : Pan Try.prog 100 [.agg (cW t p0), .nil, .int .i64 lot] (lots n)) : Ret Try.prog 84 [.agg (cW t p0), .nil, .int .i64 lot] (.tup [.nil, .bool false]) := by
  rw [cW_eq] at *
  refine Ret_defer (F := F) (fn := Try.f84) (l1 := [0]) (i := 1) (gd := 99) (first := []) (caps := [.ptr 1 0]) (sA := ⟨[.agg (cW t p0), .nil, .int .i64 lot, .ptr 0 0, .undef, .undef, .nil, .ptr 1 0, .undef, .undef, .undef, .undef, .undef], [.box 69 (cW t p0), .box 4 [.bool false]]⟩) (sR := ⟨[.agg (cW t p0), .nil, .int .i64 lot, .ptr 0 0, .undef, .undef, .nil, .ptr 1 0, .fn 99 [] [.ptr 1 0], .undef, .undef, .undef, .undef], [.box 69 (cW t p0), .box 4 [.bool false]]⟩) Try.func84 rfl ?_ ?_ rfl rfl rfl rfl rfl ⟨_, Try.func99, rfl, rfl⟩ ?_
  · apply T_r F
    · (simp only [go_sem, Try.ntmps84, cW_eq]) <;> exact rfl
    exact ⟨rfl, rfl⟩
  · apply RunR.of_W
    apply W_run
    · (simp only [go_sem, Try.ntmps84, cW_eq]) <;> exact rfl
    apply W_nil
    exact rfl
  · apply T_seq
    apply T_panCallW F (l1 := [0, 1, 2]) (i := 3) [4, 5] rfl
    apply W_run
    · (simp only [go_sem, Try.ntmps84, cW_eq]) <;> exact rfl
    apply W_nil
    refine ⟨_, _, _, _, 100, [], [], _, _, _, rfl, rfl, rfl, rfl, rfl, ⟨_, Try.func100, rfl, rfl⟩, ?_, hg, ?_⟩
    · (simp only [go_sem, Try.ntmps84, cW_eq]) <;> exact rfl
    · apply K_seqP
      exact ⟨_, _, .inr ⟨_, rfl, mv_catch1 _ false _ (closed_B t p0 false)⟩, rfl, rfl⟩
theorem mv_gone1ok1 (t : Town) (p0 : List Int) (lot : Int) (l m : List Int) (hg : Ret Try.prog 100 [.agg (cW t p0), .sl 1 (rI l), .int .i64 lot] (.sl 1 (rI m))) : Ret Try.prog 84 [.agg (cW t p0), .sl 1 (rI l), .int .i64 lot] (.tup [.sl 1 (rI m), .bool true]) := by
  rw [cW_eq] at *
  refine Ret_defer (F := F) (fn := Try.f84) (l1 := [0]) (i := 1) (gd := 99) (first := []) (caps := [.ptr 1 0]) (sA := ⟨[.agg (cW t p0), .sl 1 (rI l), .int .i64 lot, .ptr 0 0, .undef, .undef, .nil, .ptr 1 0, .undef, .undef, .undef, .undef, .undef], [.box 69 (cW t p0), .box 4 [.bool false]]⟩) (sR := ⟨[.agg (cW t p0), .sl 1 (rI l), .int .i64 lot, .ptr 0 0, .undef, .undef, .nil, .ptr 1 0, .fn 99 [] [.ptr 1 0], .undef, .undef, .undef, .undef], [.box 69 (cW t p0), .box 4 [.bool false]]⟩) Try.func84 rfl ?_ ?_ rfl rfl rfl rfl rfl ⟨_, Try.func99, rfl, rfl⟩ ?_
  · apply T_r F
    · (simp only [go_sem, Try.ntmps84, cW_eq]) <;> exact rfl
    exact ⟨rfl, rfl⟩
  · apply RunR.of_W
    apply W_run
    · (simp only [go_sem, Try.ntmps84, cW_eq]) <;> exact rfl
    apply W_nil
    exact rfl
  · apply T_seq
    apply T_wL F [0, 1, 2, 3, 4, 5] rfl
    apply W_pre [0, 1, 2] [3, 4, 5]
    · (simp only [go_sem, Try.ntmps84, cW_eq]) <;> exact rfl
    apply W_call
    · (simp only [go_sem, Try.ntmps84, cW_eq]) <;> exact rfl
    · (simp only [go_sem, Try.ntmps84, cW_eq]) <;> exact rfl
    · exact rfl
    · (simp only [go_sem, Try.ntmps84, cW_eq]) <;> exact rfl
    · (simp only [go_sem, Try.ntmps84, cW_eq]) <;> exact rfl
    · exact ⟨_, Try.func100, rfl, rfl⟩
    · (simp only [go_sem, Try.ntmps84, cW_eq]) <;> exact rfl
    · (simp only [go_sem, Try.ntmps84, cW_eq]) <;> exact rfl
    · exact hg
    apply W_run
    · (simp only [go_sem, Try.ntmps84, cW_eq]) <;> exact rfl
    apply W_nil
    apply K_seq
    apply T_ret
    refine ⟨_, _, .inl ⟨.inr rfl, mv_catch0 _ true (closed_B t p0 true)⟩, rfl, ?_⟩
    simp only [go_sem]
theorem mv_gone1no1 (t : Town) (p0 : List Int) (lot : Int) (l : List Int) (n : Int) (hg : Pan Try.prog 100 [.agg (cW t p0), .sl 1 (rI l), .int .i64 lot] (lots n)) : Ret Try.prog 84 [.agg (cW t p0), .sl 1 (rI l), .int .i64 lot] (.tup [.nil, .bool false]) := by
  rw [cW_eq] at *
  refine Ret_defer (F := F) (fn := Try.f84) (l1 := [0]) (i := 1) (gd := 99) (first := []) (caps := [.ptr 1 0]) (sA := ⟨[.agg (cW t p0), .sl 1 (rI l), .int .i64 lot, .ptr 0 0, .undef, .undef, .nil, .ptr 1 0, .undef, .undef, .undef, .undef, .undef], [.box 69 (cW t p0), .box 4 [.bool false]]⟩) (sR := ⟨[.agg (cW t p0), .sl 1 (rI l), .int .i64 lot, .ptr 0 0, .undef, .undef, .nil, .ptr 1 0, .fn 99 [] [.ptr 1 0], .undef, .undef, .undef, .undef], [.box 69 (cW t p0), .box 4 [.bool false]]⟩) Try.func84 rfl ?_ ?_ rfl rfl rfl rfl rfl ⟨_, Try.func99, rfl, rfl⟩ ?_
  · apply T_r F
    · (simp only [go_sem, Try.ntmps84, cW_eq]) <;> exact rfl
    exact ⟨rfl, rfl⟩
  · apply RunR.of_W
    apply W_run
    · (simp only [go_sem, Try.ntmps84, cW_eq]) <;> exact rfl
    apply W_nil
    exact rfl
  · apply T_seq
    apply T_panCallW F (l1 := [0, 1, 2]) (i := 3) [4, 5] rfl
    apply W_run
    · (simp only [go_sem, Try.ntmps84, cW_eq]) <;> exact rfl
    apply W_nil
    refine ⟨_, _, _, _, 100, [], [], _, _, _, rfl, rfl, rfl, rfl, rfl, ⟨_, Try.func100, rfl, rfl⟩, ?_, hg, ?_⟩
    · (simp only [go_sem, Try.ntmps84, cW_eq]) <;> exact rfl
    · apply K_seqP
      exact ⟨_, _, .inr ⟨_, rfl, mv_catch1 _ false _ (closed_B t p0 false)⟩, rfl, rfl⟩
end Go.Ab
namespace Go.Ab
open Go Go.RowKit Go.Proofs Fac
set_option linter.unusedVariables false
set_option linter.unusedSimpArgs false
set_option maxRecDepth 4000
set_option maxHeartbeats 1000000
/-! ### towns, read back from what is handed in -/
def decM {α : Type} (f : List V → Option α) : List (List V) → Option (List α)
  | [] => some []
  | r :: rs => match f r with
    | some x => match decM f rs with
      | some xs => some (x :: xs)
      | none => none
    | none => none
theorem decM_eq {α : Type} {f : List V → Option α} {e : α → List V} (hf : ∀ r x, f r = some x → r = e x) : ∀ {rows : List (List V)} {l : List α}, decM f rows = some l → rows = l.map e
  | [], l, h => by simp only [decM, Option.some.injEq] at h; subst h; rfl
  | r :: rs, l, h => by
    simp only [decM] at h
    split at h
    · rename_i x hx
      split at h
      · rename_i xs hxs
        simp only [Option.some.injEq] at h; subst h
        rw [List.map_cons, ← decM_eq hf hxs, ← hf _ _ hx]
      · cases h
    · cases h
def fI : List V → Option Int
  | [.int .i64 n] => some n
  | _ => none
theorem fI_eq (r : List V) (x : Int) (h : fI r = some x) : r = [.int .i64 x] := by
  unfold fI at h
  split at h <;> simp_all
def fB : List V → Option Bool
  | [.bool b] => some b
  | _ => none
theorem fB_eq (r : List V) (x : Bool) (h : fB r = some x) : r = [.bool x] := by
  unfold fB at h
  split at h <;> simp_all
def fL : List V → Option (List Int)
  | [.sl 1 rows] => decM fI rows
  | _ => none
theorem fL_eq (r : List V) (x : List Int) (h : fL r = some x) : r = [.sl 1 (rI x)] := by
  unfold fL at h
  split at h
  · rw [decM_eq fI_eq h]; rfl
  · cases h
def gH : List V → Option House
  | [.int .i64 n, .sl 1 rows, .bool b] => match decM fI rows with
    | some l => some ⟨n, l, b⟩
    | none => none
  | _ => none
theorem gH_eq (r : List V) (x : House) (h : gH r = some x) : r = [.int .i64 x.lot, .sl 1 (rI x.wishes), .bool x.school] := by
  unfold gH at h
  split at h
  · split at h
    · rename_i hl
      simp only [Option.some.injEq] at h; subst h
      rw [decM_eq fI_eq hl]; rfl
    · cases h
  · cases h
def fP : List V → Option (Int × Int)
  | [.int .i64 a, .int .i64 b] => some (a, b)
  | _ => none
theorem fP_eq (r : List V) (x : Int × Int) (h : fP r = some x) : r = [.int .i64 x.1, .int .i64 x.2] := by
  unfold fP at h
  split at h
  · simp only [Option.some.injEq] at h; subst h; rfl
  · cases h
def fI0 : V → Option (List Int)
  | .nil => some []
  | .sl 1 rows => decM fI rows
  | _ => none
theorem fI0_rel {x : V} {l : List Int} (h : fI0 x = some l) {E : Env} {v : Value} (hr : Rel E x v) : Rel E (.sl 1 (rI l)) v := by
  unfold fI0 at h
  split at h
  · simp only [Option.some.injEq] at h; subst h
    simp only [Rel] at hr ⊢
    exact ⟨none, 0, hr, by simp [rI], .inl rfl⟩
  · rw [decM_eq fI_eq h] at hr
    exact hr
  · cases h
def decW : List V → Option (Town × List Int)
  | [.sl 1 w, .int .i64 r, .sl 1 s, .sl 1 g, .sl 3 h, .sl 2 k, p] => match decM fL w, decM fI s, decM fB g, decM gH h, decM fP k, fI0 p with
    | some w, some s, some g, some h, some k, some p => some (⟨w, r, s, g, h, k⟩, p)
    | _, _, _, _, _, _ => none
  | _ => none
theorem decW_rel {cs : List V} {t : Town} {p : List Int} (h : decW cs = some (t, p)) {E : Env} {v : Value} (hr : Rel E (.agg cs) v) : Rel E (.agg (cW t p)) v := by
  unfold decW at h
  split at h
  · split at h
    · rename_i h1 h2 h3 h4 h5 h6
      simp only [Option.some.injEq, Prod.mk.injEq] at h
      obtain ⟨rfl, rfl⟩ := h
      rw [decM_eq fL_eq h1, decM_eq fI_eq h2, decM_eq fB_eq h3, decM_eq gH_eq h4, decM_eq fP_eq h5] at hr
      unfold Rel at hr ⊢
      obtain ⟨vs, rfl, hL⟩ := hr
      refine ⟨vs, rfl, ?_⟩
      simp only [cW, RelL] at hL ⊢
      obtain ⟨u1, l1, e1, r1, u2, l2, e2, r2, u3, l3, e3, r3, u4, l4, e4, r4, u5, l5, e5, r5, u6, l6, e6, r6, u7, l7, e7, r7, e8⟩ := hL
      exact ⟨u1, l1, e1, r1, u2, l2, e2, r2, u3, l3, e3, r3, u4, l4, e4, r4, u5, l5, e5, r5, u6, l6, e6, r6, u7, l7, e7, fI0_rel h6 r7, e8⟩
    · cases h
  · cases h
theorem Ret.town {P : Program} {f : FuncId} {cs xs : List V} {r : V} {t : Town} {p : List Int} (hd : decW cs = some (t, p)) (h : Ret P f (.agg (cW t p) :: xs) r) : Ret P f (.agg cs :: xs) r := by
  intro bad w cargs hb hR
  refine h bad w cargs hb ?_
  unfold RelL at hR ⊢
  obtain ⟨u, us, e, hu, hus⟩ := hR
  exact ⟨u, us, e, decW_rel hd hu, hus⟩
/-! ### gone1, as the interpreter answers it -/
def gone1A (t : Town) (rows : List (List V)) (l : List Int) (lot : Int) : Option V :=
  if 0 ≤ lot ∧ lot.toNat < t.gone.length ∧ t.houses.length ≤ 1000 ∧ l.length < t.houses.length then
    if l.contains lot = false ∧ M.gone t lot = false ∧ ¬ M.rank t l.length lot < 0 then some (.tup [.sl 1 (rows ++ [[.int .i64 lot]]), .bool true]) else some (.tup [.nil, .bool false])
  else none
def gone1X (args : List V) : Option V :=
  match args with
  | [.agg cs, .nil, .int .i64 lot] => match decW cs with
    | some (t, _) => gone1A t [] [] lot
    | none => none
  | [.agg cs, .sl 1 rows, .int .i64 lot] => match decW cs with
    | some (t, _) => match decM fI rows with
      | some (x :: l) => gone1A t rows (x :: l) lot
      | _ => none
    | none => none
  | _ => none
theorem rI_snoc (l : List Int) (n : Int) : rI l ++ [[.int .i64 n]] = rI (l ++ [n]) := by simp [rI]
theorem gone1X_ret {args : List V} {r : V} (h : gone1X args = some r) : Ret Try.prog 84 args r := by
  unfold gone1X at h
  split at h
  · rename_i cs lot
    split at h
    · rename_i t p hd
      refine Ret.town hd ?_
      unfold gone1A at h
      split at h
      · rename_i hc
        obtain ⟨h1, h2, h3, h4⟩ := hc
        simp only [List.length_nil] at h4 h
        split at h
        · rename_i hok
          simp only [Option.some.injEq] at h; subst h
          have := mv_goes0 t p lot h1 h2 h3 h4 ⟨hok.2.1, hok.2.2⟩
          exact mv_gone1ok0 t p lot [lot] this
        · rename_i hok
          simp only [Option.some.injEq] at h; subst h
          refine mv_gone1no0 t p lot ((0 : Nat) : Int) (mv_goes0p t p lot h1 h2 h3 h4 ?_)
          cases hg : M.gone t lot
          · right
            simp only [List.contains_nil, hg, true_and, Decidable.not_not] at hok
            exact hok
          · exact .inl rfl
      · cases h
    · cases h
  · rename_i cs rows lot
    split at h
    · rename_i t p hd
      split at h
      · rename_i x l hl
        refine Ret.town hd ?_
        have hrows : rows = rI (x :: l) := decM_eq fI_eq hl
        subst hrows
        unfold gone1A at h
        split at h
        · rename_i hc
          obtain ⟨h1, h2, h3, h4⟩ := hc
          split at h
          · rename_i hok
            simp only [Option.some.injEq] at h; subst h
            have := mv_goes1 t p lot h1 h2 h3 x l h4 hok
            rw [rI_snoc] at this ⊢
            exact mv_gone1ok1 t p lot (x :: l) _ this
          · rename_i hok
            simp only [Option.some.injEq] at h; subst h
            refine mv_gone1no1 t p lot (x :: l) (((x :: l).length : Nat) : Int) (mv_goes1p t p lot h1 h2 h3 x l h4 ?_)
            cases hg : M.gone t lot
            · cases hc : (x :: l).contains lot
              · right; right
                simp only [hg, hc, true_and, Decidable.not_not] at hok
                exact hok
              · exact .inl rfl
            · exact .inr (.inl rfl)
        · cases h
      · cases h
    · cases h
  · cases h
def X0 (g : FuncId) (args : List V) : Option V := if g = 84 then gone1X args else none
theorem X0_ok : ∀ g args r, X0 g args = some r → Ret Try.prog g args r ∧ Callee Try.prog g := by
  intro g args r h
  unfold X0 at h
  split at h
  · rename_i e; subst e
    exact ⟨gone1X_ret h, _, Try.func84, rfl, rfl⟩
  · cases h
end Go.Ab
namespace Go.Ab
open Go Go.RowKit Go.Proofs
/-! ### the examples that each statement checks -/
theorem noNum : ∀ (g : Nat) fn, Try.prog.funcs[g]? = some fn → (fn.name == "runtime.NumGoroutine") = false := by
  have h : (Try.prog.funcs.all fun fn => (fn.name == "runtime.NumGoroutine") == false) = true := by kernel_rfl
  intro g fn hg
  rw [Array.all_eq_true_iff_forall_mem] at h
  have := h fn (Array.mem_of_getElem? hg)
  simpa using this
def keep24 (n : Nat) : Bool := n == 24
def queue66 (g : FuncId) : Bool := g == 66
def isB (o : Option V) (b : Bool) : Bool := match o with
  | some (.bool c) => b == c
  | _ => false
theorem isB_eq {o : Option V} {b : Bool} (h : isB o b = true) : o = some (.bool b) := by
  unfold isB at h
  split at h
  · rw [beq_iff_eq] at h; rw [h]
  · cases h
theorem known_run : isB ((Interp.run F keep24 X0 queue66 200).data 16 []) true = true := by kernel_rfl
theorem known_ok : Ret Try.prog 16 [] (.bool true) := Ret.of_run F keep24 queue66 200 X0_ok noNum (isB_eq known_run)
end Go.Ab
namespace Go.Ab
open Go Go.RowKit Go.Proofs Fac
set_option linter.unusedVariables false
set_option linter.unusedSimpArgs false
set_option maxRecDepth 4000
set_option maxHeartbeats 1000000




theorem mv_Fault (t : Town) (p : List Int) (hh : t.houses.length ≤ 1000) : Ret Try.prog 17 [.agg (cT t), .sl 1 (rI p)] (if M.Ok t ∧ M.plan t p = true then .tup [.agg [.int .i64 (M.fault t p).1, .int .i64 (M.fault t p).2], .int .i64 0] else .tup [.agg [.int .i64 0, .int .i64 0], .int .i64 2]) := by
  refine Ret.of_fits fun hfits => ?_
  simp only [V.fits, V.fitsL, V.fitsR, cT_fits] at hfits
  have hl := hfits.1.schools
  have hlk := hfits.1.kin
  apply Ret_fin (fn := Try.f17) Try.func17 rfl
  apply T_seq
  apply T_r F
  · (simp only [go_sem, Try.ntmps17]) <;> exact rfl
  apply K_seq
  apply T_seq
  apply T_r F
  · (simp only [go_sem, Try.ntmps17]) <;> exact rfl
  apply K_seq
  apply T_seq
  apply T_seq
  apply T_wL F [0, 1, 2, 3, 4, 5, 6, 7] rfl
  apply W_pre [0] [1, 2, 3, 4, 5, 6, 7]
  · (simp only [go_sem, Try.ntmps17]) <;> exact rfl
  apply W_call -- call 0 of function 46
  · (simp only [go_sem, Try.ntmps17]) <;> exact rfl
  · (simp only [go_sem, Try.ntmps17]) <;> exact rfl
  · exact rfl
  · (simp only [go_sem, Try.ntmps17]) <;> exact rfl
  · (simp only [go_sem, Try.ntmps17]) <;> exact rfl
  · exact ⟨_, Try.func46, rfl, rfl⟩
  · (simp only [go_sem, Try.ntmps17]) <;> exact rfl
  · (simp only [go_sem, Try.ntmps17]) <;> exact rfl
  · exact mv_valid _ (by omega)
  apply W_pre [2, 3] [4, 5, 6, 7]
  · (simp only [go_sem, Try.ntmps17]) <;> exact rfl
  apply W_guard
  · (simp only [go_sem, Try.ntmps17]) <;> exact rfl
  · (simp only [go_sem, Try.ntmps17]) <;> exact rfl
  · intro bg0t
    have g0t := bg0t
    try simp only [CS] at g0t
    try simp only [BS] at bg0t
    try exact absurd bg0t (by decide)
    all_goals (
  apply W_pre [4] [5, 6, 7]
  · (simp only [go_sem, Try.ntmps17, bg0t]) <;> exact rfl
  apply W_call -- call 1 of function 47
  · (simp only [go_sem, Try.ntmps17, bg0t]) <;> exact rfl
  · (simp only [go_sem, Try.ntmps17, bg0t]) <;> exact rfl
  · exact rfl
  · (simp only [go_sem, Try.ntmps17, bg0t]) <;> exact rfl
  · (simp only [go_sem, Try.ntmps17, bg0t]) <;> exact rfl
  · exact ⟨_, Try.func47, rfl, rfl⟩
  · (simp only [go_sem, Try.ntmps17, bg0t]) <;> exact rfl
  · (simp only [go_sem, Try.ntmps17, bg0t]) <;> exact rfl
  · exact mv_planned _ _
  apply W_run
  · (simp only [go_sem, Try.ntmps17, bg0t]) <;> exact rfl
  apply W_nil
  apply K_seq
  apply T_if
  · (simp only [go_sem, Try.ntmps17, bg0t]) <;> exact rfl
  · intro bh0t
    have h0t := bh0t
    try simp only [CS] at h0t
    try simp only [BS] at bh0t
    try exact absurd bh0t (by decide)
    all_goals (
  apply T_seq
  apply T_r F
  · (simp only [go_sem, Try.ntmps17, bg0t, bh0t]) <;> exact rfl
  apply K_seq
  apply T_ret
  apply K_seqR
  apply fin_ret
  · (simp only [go_sem, Try.ntmps17, bg0t, bh0t, Try.f17]) <;> exact rfl
  -- leaf 0 (ret)
  simp only [go_sem, Try.ntmps17, bg0t, bh0t, V.bool.injEq, V.int.injEq, true_and]
  simp_all)
  · intro bh0f
    have h0f := bh0f
    try simp only [CS] at h0f
    try simp only [BS] at bh0f
    try exact absurd bh0f (by decide)
    all_goals (
  apply T_skip
  apply K_seq
  apply T_seq
  apply T_wL F [0, 1, 2, 3] rfl
  apply W_pre [0] [1, 2, 3]
  · (simp only [go_sem, Try.ntmps17, bg0t, bh0f]) <;> exact rfl
  apply W_call -- call 2 of function 48
  · (simp only [go_sem, Try.ntmps17, bg0t, bh0f]) <;> exact rfl
  · (simp only [go_sem, Try.ntmps17, bg0t, bh0f]) <;> exact rfl
  · exact rfl
  · (simp only [go_sem, Try.ntmps17, bg0t, bh0f]) <;> exact rfl
  · (simp only [go_sem, Try.ntmps17, bg0t, bh0f]) <;> exact rfl
  · exact ⟨_, Try.func48, rfl, rfl⟩
  · (simp only [go_sem, Try.ntmps17, bg0t, bh0f]) <;> exact rfl
  · (simp only [go_sem, Try.ntmps17, bg0t, bh0f]) <;> exact rfl
  · exact mv_fault _ _ (by assumption) (by assumption) (by omega) (by omega)
  apply W_run
  · (simp only [go_sem, Try.ntmps17, bg0t, bh0f]) <;> exact rfl
  apply W_nil
  apply K_seq
  apply T_ret
  apply fin_ret
  · (simp only [go_sem, Try.ntmps17, bg0t, bh0f, Try.f17]) <;> exact rfl
  -- leaf 1 (ret)
  simp only [go_sem, Try.ntmps17, bg0t, bh0f, V.bool.injEq, V.int.injEq, true_and]
  simp_all))
  · intro bg0f
    have g0f := bg0f
    try simp only [CS] at g0f
    try simp only [BS] at bg0f
    try exact absurd bg0f (by decide)
    all_goals (
  apply W_run
  · (simp only [go_sem, Try.ntmps17, bg0f]) <;> exact rfl
  apply W_nil
  apply K_seq
  apply T_if
  · (simp only [go_sem, Try.ntmps17, bg0f]) <;> exact rfl
  · intro bh1t
    have h1t := bh1t
    try simp only [CS] at h1t
    try simp only [BS] at bh1t
    try exact absurd bh1t (by decide)
    all_goals (
  apply T_seq
  apply T_r F
  · (simp only [go_sem, Try.ntmps17, bg0f, bh1t]) <;> exact rfl
  apply K_seq
  apply T_ret
  apply K_seqR
  apply fin_ret
  · (simp only [go_sem, Try.ntmps17, bg0f, bh1t, Try.f17]) <;> exact rfl
  -- leaf 2 (ret)
  simp only [go_sem, Try.ntmps17, bg0f, bh1t, V.bool.injEq, V.int.injEq, true_and]
  simp_all)
  · intro bh1f
    exact absurd bh1f (by simp))

end Go.Ab
namespace Go.Ab
open Go Go.RowKit Go.Proofs Fac
set_option linter.unusedVariables false
set_option linter.unusedSimpArgs false
set_option maxRecDepth 4000
set_option maxHeartbeats 1000000




def M.chk (t : Town) : Int := if M.Ok t then 0 else 2
def M.ans (t : Town) (p : List Int) : Int × Int := if M.Ok t ∧ M.plan t p = true then M.fault t p else (0, 0)
def M.bad (t : Town) (p : List Int) : Int := if M.Ok t ∧ M.plan t p = true then 0 else 2
def M.err (t : Town) (p : List Int) : Int := if M.Ok t ∧ M.plan t p = true then (if M.allowed t p = true then 0 else 7) else 2
def M.rk (t : Town) (p : List Int) : List Int := if M.err t p = 0 then M.ranks t p else []
theorem mv_FaultAll {t : Town} {p : List Int} (hh : t.houses.length ≤ 1000) : Ret Try.prog 17 [.agg (cT t), .sl 1 (rI p)] (.tup [.agg [.int .i64 (M.ans t p).1, .int .i64 (M.ans t p).2], .int .i64 (M.bad t p)]) := by
  have := mv_Fault t p hh
  unfold M.ans M.bad
  by_cases h : M.Ok t ∧ M.plan t p = true
  · rw [if_pos h, if_pos h]; rw [if_pos h] at this; exact this
  · rw [if_neg h, if_neg h]; rw [if_neg h] at this; exact this

theorem mv_Check (t : Town) (hh : t.houses.length ≤ 1000) : Ret Try.prog 39 [.agg (cT t)] (.int .i64 (M.chk t)) := by
  apply Ret_fin (fn := Try.f39) Try.func39 rfl
  apply T_seq
  apply T_r F
  · (simp only [go_sem, Try.ntmps39]) <;> exact rfl
  apply K_seq
  apply T_seq
  apply T_seq
  apply T_wL F [0, 1, 2] rfl
  apply W_pre [0] [1, 2]
  · (simp only [go_sem, Try.ntmps39]) <;> exact rfl
  apply W_call -- call 0 of function 46
  · (simp only [go_sem, Try.ntmps39]) <;> exact rfl
  · (simp only [go_sem, Try.ntmps39]) <;> exact rfl
  · exact rfl
  · (simp only [go_sem, Try.ntmps39]) <;> exact rfl
  · (simp only [go_sem, Try.ntmps39]) <;> exact rfl
  · exact ⟨_, Try.func46, rfl, rfl⟩
  · (simp only [go_sem, Try.ntmps39]) <;> exact rfl
  · (simp only [go_sem, Try.ntmps39]) <;> exact rfl
  · exact mv_valid _ (by omega)
  apply W_run
  · (simp only [go_sem, Try.ntmps39]) <;> exact rfl
  apply W_nil
  apply K_seq
  apply T_if
  · (simp only [go_sem, Try.ntmps39]) <;> exact rfl
  · intro bh0t
    have h0t := bh0t
    try simp only [CS] at h0t
    try simp only [BS] at bh0t
    try exact absurd bh0t (by decide)
    all_goals (
  apply T_seq
  apply T_r F
  · (simp only [go_sem, Try.ntmps39, bh0t]) <;> exact rfl
  apply K_seq
  apply T_ret
  apply K_seqR
  apply fin_ret
  · (simp only [go_sem, Try.ntmps39, bh0t, Try.f39]) <;> exact rfl
  -- leaf 0 (ret)
  simp only [go_sem, Try.ntmps39, bh0t, V.bool.injEq, V.int.injEq, true_and]
  simp_all [M.chk])
  · intro bh0f
    have h0f := bh0f
    try simp only [CS] at h0f
    try simp only [BS] at bh0f
    try exact absurd bh0f (by decide)
    all_goals (
  apply T_skip
  apply K_seq
  apply T_seq
  apply T_r F
  · (simp only [go_sem, Try.ntmps39, bh0f]) <;> exact rfl
  apply K_seq
  apply T_ret
  apply fin_ret
  · (simp only [go_sem, Try.ntmps39, bh0f, Try.f39]) <;> exact rfl
  -- leaf 1 (ret)
  simp only [go_sem, Try.ntmps39, bh0f, V.bool.injEq, V.int.injEq, true_and]
  simp_all [M.chk])

theorem mv_allowed (t : Town) (p : List Int) (hh : t.houses.length ≤ 1000) : Ret Try.prog 49 [.agg (cW t p)] (.int .i64 (M.err t p)) := by
  refine Ret.of_fits fun hfits => ?_
  simp only [V.fits, V.fitsL, V.fitsR, cW_fits] at hfits
  have hl := hfits.1.1.schools
  have hlk := hfits.1.1.kin
  apply Ret_fin (fn := Try.f49) Try.func49 rfl
  apply T_seq
  apply T_r F
  · (simp only [go_sem, Try.ntmps49, cW_eq]) <;> exact rfl
  apply K_seq
  apply T_seq
  apply T_seq
  apply T_wL F [0, 1, 2, 3, 4, 5, 6, 7, 8] rfl
  apply W_pre [0, 1] [2, 3, 4, 5, 6, 7, 8]
  · (simp only [go_sem, Try.ntmps49, cW_eq]) <;> exact rfl
  apply W_call -- call 0 of function 46
  · (simp only [go_sem, Try.ntmps49, cW_eq]) <;> exact rfl
  · (simp only [go_sem, Try.ntmps49, cW_eq]) <;> exact rfl
  · exact rfl
  · (simp only [go_sem, Try.ntmps49, cW_eq]) <;> exact rfl
  · (simp only [go_sem, Try.ntmps49, cW_eq]) <;> exact rfl
  · exact ⟨_, Try.func46, rfl, rfl⟩
  · (simp only [go_sem, Try.ntmps49, cW_eq]) <;> exact rfl
  · (simp only [go_sem, Try.ntmps49, cW_eq]) <;> exact rfl
  · exact mv_valid _ (by omega)
  apply W_pre [3, 4] [5, 6, 7, 8]
  · (simp only [go_sem, Try.ntmps49, cW_eq]) <;> exact rfl
  apply W_guard
  · (simp only [go_sem, Try.ntmps49, cW_eq]) <;> exact rfl
  · (simp only [go_sem, Try.ntmps49, cW_eq]) <;> exact rfl
  · intro bg0t
    have g0t := bg0t
    try simp only [CS] at g0t
    try simp only [BS] at bg0t
    try exact absurd bg0t (by decide)
    all_goals (
  apply W_pre [5] [6, 7, 8]
  · (simp only [go_sem, Try.ntmps49, cW_eq, bg0t]) <;> exact rfl
  apply W_call -- call 1 of function 47
  · (simp only [go_sem, Try.ntmps49, cW_eq, bg0t]) <;> exact rfl
  · (simp only [go_sem, Try.ntmps49, cW_eq, bg0t]) <;> exact rfl
  · exact rfl
  · (simp only [go_sem, Try.ntmps49, cW_eq, bg0t]) <;> exact rfl
  · (simp only [go_sem, Try.ntmps49, cW_eq, bg0t]) <;> exact rfl
  · exact ⟨_, Try.func47, rfl, rfl⟩
  · (simp only [go_sem, Try.ntmps49, cW_eq, bg0t]) <;> exact rfl
  · (simp only [go_sem, Try.ntmps49, cW_eq, bg0t]) <;> exact rfl
  · exact mv_planned _ _
  apply W_run
  · (simp only [go_sem, Try.ntmps49, cW_eq, bg0t]) <;> exact rfl
  apply W_nil
  apply K_seq
  apply T_if
  · (simp only [go_sem, Try.ntmps49, cW_eq, bg0t]) <;> exact rfl
  · intro bh0t
    have h0t := bh0t
    try simp only [CS] at h0t
    try simp only [BS] at bh0t
    try exact absurd bh0t (by decide)
    all_goals (
  apply T_seq
  apply T_r F
  · (simp only [go_sem, Try.ntmps49, cW_eq, bg0t, bh0t]) <;> exact rfl
  apply K_seq
  apply T_ret
  apply K_seqR
  apply fin_ret
  · (simp only [go_sem, Try.ntmps49, cW_eq, bg0t, bh0t, Try.f49]) <;> exact rfl
  -- leaf 0 (ret)
  simp only [go_sem, Try.ntmps49, cW_eq, bg0t, bh0t, V.bool.injEq, V.int.injEq, true_and]
  simp_all [M.err, M.allowed])
  · intro bh0f
    have h0f := bh0f
    try simp only [CS] at h0f
    try simp only [BS] at bh0f
    try exact absurd bh0f (by decide)
    all_goals (
  apply T_skip
  apply K_seq
  apply T_seq
  apply T_seq
  apply T_wL F [0, 1, 2, 3] rfl
  apply W_pre [0] [1, 2, 3]
  · (simp only [go_sem, Try.ntmps49, cW_eq, bg0t, bh0f]) <;> exact rfl
  apply W_call -- call 2 of function 48
  · (simp only [go_sem, Try.ntmps49, cW_eq, bg0t, bh0f]) <;> exact rfl
  · (simp only [go_sem, Try.ntmps49, cW_eq, bg0t, bh0f]) <;> exact rfl
  · exact rfl
  · (simp only [go_sem, Try.ntmps49, cW_eq, bg0t, bh0f]) <;> exact rfl
  · (simp only [go_sem, Try.ntmps49, cW_eq, bg0t, bh0f]) <;> exact rfl
  · exact ⟨_, Try.func48, rfl, rfl⟩
  · (simp only [go_sem, Try.ntmps49, cW_eq, bg0t, bh0f]) <;> exact rfl
  · (simp only [go_sem, Try.ntmps49, cW_eq, bg0t, bh0f]) <;> exact rfl
  · exact mv_fault _ _ g0t (by first | assumption | simp_all) (by omega) (by omega)
  apply W_run
  · (simp only [go_sem, Try.ntmps49, cW_eq, bg0t, bh0f]) <;> exact rfl
  apply W_nil
  apply K_seq
  apply T_if
  · (simp only [go_sem, Try.ntmps49, cW_eq, bg0t, bh0f]) <;> exact rfl
  · intro bh1t
    have h1t := bh1t
    try simp only [CS] at h1t
    try simp only [BS] at bh1t
    try exact absurd bh1t (by decide)
    all_goals (
  apply T_seq
  apply T_r F
  · (simp only [go_sem, Try.ntmps49, cW_eq, bg0t, bh0f, bh1t]) <;> exact rfl
  apply K_seq
  apply T_ret
  apply K_seqR
  apply fin_ret
  · (simp only [go_sem, Try.ntmps49, cW_eq, bg0t, bh0f, bh1t, Try.f49]) <;> exact rfl
  -- leaf 1 (ret)
  simp only [go_sem, Try.ntmps49, cW_eq, bg0t, bh0f, bh1t, V.bool.injEq, V.int.injEq, true_and]
  simp_all [M.err, M.allowed])
  · intro bh1f
    have h1f := bh1f
    try simp only [CS] at h1f
    try simp only [BS] at bh1f
    try exact absurd bh1f (by decide)
    all_goals (
  apply T_skip
  apply K_seq
  apply T_seq
  apply T_r F
  · (simp only [go_sem, Try.ntmps49, cW_eq, bg0t, bh0f, bh1f]) <;> exact rfl
  apply K_seq
  apply T_ret
  apply fin_ret
  · (simp only [go_sem, Try.ntmps49, cW_eq, bg0t, bh0f, bh1f, Try.f49]) <;> exact rfl
  -- leaf 2 (ret)
  simp only [go_sem, Try.ntmps49, cW_eq, bg0t, bh0f, bh1f, V.bool.injEq, V.int.injEq, true_and]
  simp_all [M.err, M.allowed])))
  · intro bg0f
    have g0f := bg0f
    try simp only [CS] at g0f
    try simp only [BS] at bg0f
    try exact absurd bg0f (by decide)
    all_goals (
  apply W_run
  · (simp only [go_sem, Try.ntmps49, cW_eq, bg0f]) <;> exact rfl
  apply W_nil
  apply K_seq
  apply T_if
  · (simp only [go_sem, Try.ntmps49, cW_eq, bg0f]) <;> exact rfl
  · intro bh2t
    have h2t := bh2t
    try simp only [CS] at h2t
    try simp only [BS] at bh2t
    try exact absurd bh2t (by decide)
    all_goals (
  apply T_seq
  apply T_r F
  · (simp only [go_sem, Try.ntmps49, cW_eq, bg0f, bh2t]) <;> exact rfl
  apply K_seq
  apply T_ret
  apply K_seqR
  apply fin_ret
  · (simp only [go_sem, Try.ntmps49, cW_eq, bg0f, bh2t, Try.f49]) <;> exact rfl
  -- leaf 3 (ret)
  simp only [go_sem, Try.ntmps49, cW_eq, bg0f, bh2t, V.bool.injEq, V.int.injEq, true_and]
  simp_all [M.err, M.allowed])
  · intro bh2f
    exact absurd bh2f (by simp))

theorem mv_Ranks0 (t : Town) (p : List Int) (hh : t.houses.length ≤ 1000) : Ret Try.prog 34 [.agg (cT t), .sl 1 (rI p)] (if M.err t p = 0 then .tup [.sl 1 (rI (M.ranks t p)), .int .i64 0] else .tup [.nil, .int .i64 (M.err t p)]) := by
  apply Ret_fin (fn := Try.f34) Try.func34 rfl
  apply T_seq
  apply T_r F
  · (simp only [go_sem, Try.ntmps34, cW_eq]) <;> exact rfl
  apply K_seq
  apply T_seq
  apply T_r F
  · (simp only [go_sem, Try.ntmps34, cW_eq]) <;> exact rfl
  apply K_seq
  apply T_seq
  apply T_seq
  apply T_wL F [0, 1, 2] rfl
  apply W_pre [0] [1, 2]
  · (simp only [go_sem, Try.ntmps34, cW_eq]) <;> exact rfl
  apply W_call -- call 0 of function 49
  · (simp only [go_sem, Try.ntmps34, cW_eq]) <;> exact rfl
  · (simp only [go_sem, Try.ntmps34, cW_eq]) <;> exact rfl
  · exact rfl
  · (simp only [go_sem, Try.ntmps34, cW_eq]) <;> exact rfl
  · (simp only [go_sem, Try.ntmps34, cW_eq]) <;> exact rfl
  · exact ⟨_, Try.func49, rfl, rfl⟩
  · (simp only [go_sem, Try.ntmps34, cW_eq]) <;> exact rfl
  · (simp only [go_sem, Try.ntmps34, cW_eq]) <;> exact rfl
  · exact mv_allowed _ _ (by omega)
  apply W_run
  · (simp only [go_sem, Try.ntmps34, cW_eq]) <;> exact rfl
  apply W_nil
  apply K_seq
  apply T_seq
  apply T_r F
  · (simp only [go_sem, Try.ntmps34, cW_eq]) <;> exact rfl
  apply K_seq
  apply T_if
  · (simp only [go_sem, Try.ntmps34, cW_eq]) <;> exact rfl
  · intro bh0t
    have h0t := bh0t
    try simp only [CS] at h0t
    try simp only [BS] at bh0t
    try exact absurd bh0t (by decide)
    all_goals (
  apply T_seq
  apply T_r F
  · (simp only [go_sem, Try.ntmps34, cW_eq, bh0t]) <;> exact rfl
  apply K_seq
  apply T_ret
  apply K_seqR
  apply fin_ret
  · (simp only [go_sem, Try.ntmps34, cW_eq, bh0t, Try.f34]) <;> exact rfl
  -- leaf 0 (ret)
  simp only [go_sem, Try.ntmps34, cW_eq, bh0t, V.bool.injEq, V.int.injEq, true_and]
  simp_all)
  · intro bh0f
    have h0f := bh0f
    try simp only [CS] at h0f
    try simp only [BS] at bh0f
    try exact absurd bh0f (by decide)
    all_goals (
  have hpl : p.length = t.houses.length := by
    have h1 := h0f
    unfold M.err at h1
    split at h1
    · rename_i hc; exact (M.plan_iff.1 hc.2).1
    · omega
  apply T_skip
  apply K_seq
  apply T_seq
  apply T_wL F [0, 1, 2, 3] rfl
  apply W_pre [0] [1, 2, 3]
  · (simp only [go_sem, Try.ntmps34, cW_eq, bh0f]) <;> exact rfl
  apply W_call -- call 1 of function 50
  · (simp only [go_sem, Try.ntmps34, cW_eq, bh0f]) <;> exact rfl
  · (simp only [go_sem, Try.ntmps34, cW_eq, bh0f]) <;> exact rfl
  · exact rfl
  · (simp only [go_sem, Try.ntmps34, cW_eq, bh0f]) <;> exact rfl
  · (simp only [go_sem, Try.ntmps34, cW_eq, bh0f]) <;> exact rfl
  · exact ⟨_, Try.func50, rfl, rfl⟩
  · (simp only [go_sem, Try.ntmps34, cW_eq, bh0f]) <;> exact rfl
  · (simp only [go_sem, Try.ntmps34, cW_eq, bh0f]) <;> exact rfl
  · exact mv_ranks _ _ (by omega) (by omega)
  apply W_run
  · (simp only [go_sem, Try.ntmps34, cW_eq, bh0f]) <;> exact rfl
  apply W_nil
  apply K_seq
  apply T_ret
  apply fin_ret
  · (simp only [go_sem, Try.ntmps34, cW_eq, bh0f, Try.f34]) <;> exact rfl
  -- leaf 1 (ret)
  simp only [go_sem, Try.ntmps34, cW_eq, bh0f, V.bool.injEq, V.int.injEq, true_and]
  simp_all)


theorem nil_tup {E : Env} {x : V} {v : Value} (h : Rel E (.tup [.nil, x]) v) : Rel E (.tup [.sl 1 (rI []), x]) v := by
  simp only [Rel, RelL] at h ⊢
  obtain ⟨vs, rfl, u, us, e, rfl, hr⟩ := h
  exact ⟨vs, rfl, _, us, e, ⟨none, 0, rfl, by simp [rI], .inl rfl⟩, hr⟩
theorem mv_RanksAll {t : Town} {p : List Int} (hh : t.houses.length ≤ 1000) : Ret Try.prog 34 [.agg (cT t), .sl 1 (rI p)] (.tup [.sl 1 (rI (M.rk t p)), .int .i64 (M.err t p)]) := by
  have := mv_Ranks0 t p hh
  unfold M.rk
  by_cases h : M.err t p = 0
  · rw [if_pos h] at this
    rw [if_pos h, h]
    exact this
  · rw [if_neg h] at this
    rw [if_neg h]
    exact fun bad w cargs hb hR => (this bad w cargs hb hR).mono fun e w' ⟨v, he, hr, bel⟩ => ⟨v, he, nil_tup hr, bel⟩
end Go.Ab
namespace Go.Ab.M
open Go Go.RowKit
set_option linter.unusedVariables false
/-! ### all plans that are allowed, in lexicographic order -/
theorem first_none_iff' {n : Nat} {f : Nat → Bool} : first n f = none ↔ ∀ j, j < n → f j = false := by
  simp only [first, List.find?_eq_none, List.mem_range, Bool.not_eq_true]
theorem allowed_iff {t : Town} {p : List Int} : allowed t p = true ↔ (∀ i, i < p.length → shared p i = false ∧ gone t (at' p i) = false ∧ unwished t p i = false ∧ untaught t p i = false) ∧ ∀ k, k < t.kin.length → apart t p k = false := by
  have key : allowed t p = true ↔ first p.length (shared p) = none ∧ first p.length (fun i => gone t (at' p i)) = none ∧ first p.length (unwished t p) = none ∧ first p.length (untaught t p) = none ∧ first t.kin.length (apart t p) = none := by
    unfold allowed fault
    cases first p.length (shared p) <;> simp
    cases first p.length (fun i => gone t (at' p i)) <;> simp
    cases first p.length (unwished t p) <;> simp
    cases first p.length (untaught t p) <;> simp
    cases first t.kin.length (apart t p) <;> simp
  rw [key]
  simp only [first_none_iff']
  constructor
  · rintro ⟨a, b, c, d, e⟩; exact ⟨fun i hi => ⟨a i hi, b i hi, c i hi, d i hi⟩, e⟩
  · rintro ⟨a, e⟩; exact ⟨fun i hi => (a i hi).1, fun i hi => (a i hi).2.1, fun i hi => (a i hi).2.2.1, fun i hi => (a i hi).2.2.2, e⟩
def goesB (t : Town) (p : List Int) (n : Int) : Bool := !p.contains n && !gone t n && decide (0 ≤ rank t p.length n)
def dfs (t : Town) : Nat → List Int → List (List Int)
  | 0, p => if allowed t p = true then [p] else []
  | m + 1, p => (List.range t.walk.length).flatMap fun (k : Nat) => if goesB t p k = true then dfs t m (p ++ [(k : Int)]) else []
def plans (t : Town) : List (List Int) := dfs t t.houses.length []
theorem before_append (p a b : List Int) : before (p ++ a) (p ++ b) = before a b := by
  induction p with
  | nil => rfl
  | cons x p ih => simp [before, ih]
theorem goes_of {t : Town} {p : List Int} {n : Int} {s : List Int} (h : allowed t (p ++ n :: s) = true) : goesB t p n = true := by
  have := (allowed_iff.1 h).1 p.length (by simp)
  obtain ⟨h1, h2, h3, _⟩ := this
  have hat : at' (p ++ n :: s) p.length = n := by simp [at']
  unfold shared at h1; unfold unwished at h3
  rw [hat] at h1 h2 h3
  rw [List.take_left] at h1
  unfold goesB
  rw [h1, h2]
  simp only [decide_eq_false_iff_not] at h3
  simp only [Bool.not_false, Bool.true_and, decide_eq_true_eq]; omega
theorem mem_dfs {t : Town} : ∀ {m : Nat} {p q : List Int}, q ∈ dfs t m p ↔ ∃ s, q = p ++ s ∧ s.length = m ∧ allowed t q = true ∧ ∀ x ∈ s, lot t x = true
  | 0, p, q => by
    unfold dfs
    constructor
    · intro h
      split at h
      · rename_i ha
        simp only [List.mem_singleton] at h; subst h
        exact ⟨[], by simp, rfl, ha, by simp⟩
      · simp at h
    · rintro ⟨s, rfl, hl, ha, hx⟩
      obtain rfl := List.eq_nil_of_length_eq_zero hl
      rw [List.append_nil] at *
      rw [if_pos ha]; simp
  | m + 1, p, q => by
    unfold dfs
    simp only [List.mem_flatMap, List.mem_range]
    constructor
    · rintro ⟨k, hk, h⟩
      split at h
      · obtain ⟨s, rfl, hl, ha, hx⟩ := mem_dfs.1 h
        refine ⟨(k : Int) :: s, by simp, by simp [hl], ha, fun x hx' => ?_⟩
        rcases List.mem_cons.1 hx' with rfl | h'
        · rw [lot_iff]; omega
        · exact hx x h'
      · simp at h
    · rintro ⟨s, rfl, hl, ha, hx⟩
      rcases s with _ | ⟨n, s⟩
      · simp at hl
      · have hn := lot_iff.1 (hx n (by simp))
        refine ⟨n.toNat, by omega, ?_⟩
        have hc : ((n.toNat : Nat) : Int) = n := by omega
        rw [hc, if_pos (goes_of ha), mem_dfs]
        exact ⟨s, by simp, by simpa using hl, ha, fun x h => hx x (by simp [h])⟩
theorem dfs_sorted {t : Town} : ∀ {m : Nat} {p : List Int}, (dfs t m p).Pairwise fun a b => before a b = true
  | 0, p => by
    unfold dfs
    split <;> simp
  | m + 1, p => by
    unfold dfs
    rw [List.pairwise_flatMap]
    refine ⟨fun k _ => ?_, ?_⟩
    · split
      · exact dfs_sorted
      · simp
    · refine List.Pairwise.imp ?_ List.pairwise_lt_range
      intro a b hab x hx y hy
      split at hx
      · split at hy
        · obtain ⟨s, rfl, _⟩ := mem_dfs.1 hx
          obtain ⟨u, rfl, _⟩ := mem_dfs.1 hy
          rw [List.append_assoc, List.append_assoc, before_append]
          simp only [List.cons_append, List.nil_append, before]
          rw [if_neg (by omega)]
          simp; omega
        · simp at hy
      · simp at hx
theorem mem_plans {t : Town} {q : List Int} : q ∈ plans t ↔ plan t q = true ∧ allowed t q = true := by
  unfold plans
  rw [mem_dfs, plan]
  simp only [List.nil_append, Bool.and_eq_true, List.all_eq_true, beq_iff_eq]
  constructor
  · rintro ⟨s, rfl, h1, h2, h3⟩; exact ⟨⟨h3, h1⟩, h2⟩
  · rintro ⟨⟨h3, h1⟩, h2⟩; exact ⟨q, rfl, h1, h2, h3⟩
theorem plans_sorted (t : Town) : (plans t).Pairwise fun a b => before a b = true := dfs_sorted
theorem before_irrefl : ∀ a : List Int, before a a = false
  | [] => rfl
  | x :: a => by simp [before, before_irrefl a]
theorem before_asymm : ∀ {a b : List Int}, before a b = true → before b a = false
  | [], _, h => by simp [before] at h
  | _ :: _, [], h => by simp [before] at h
  | x :: a, y :: b, h => by
    unfold before at h ⊢
    by_cases hxy : x = y
    · subst hxy; simp only [if_true] at h ⊢; exact before_asymm h
    · rw [if_neg hxy] at h; rw [if_neg (fun e => hxy e.symm)]
      simp at h ⊢; omega
/-! ### the least of some plans -/
def lt2 (a b : Int × Int) : Bool := decide (a.1 < b.1) || (a.1 == b.1 && decide (a.2 < b.2))
def pick (f : List Int → Int × Int) : Option (List Int × Int × Int) → List Int → Option (List Int × Int × Int)
  | none, p => some (p, f p)
  | some (q, m), p => if lt2 (f p) m = true then some (p, f p) else some (q, m)
def least (f : List Int → Int × Int) (l : List (List Int)) : Option (List Int × Int × Int) := l.foldl (pick f) none
theorem lt2_irrefl (a : Int × Int) : lt2 a a = false := by simp [lt2]
theorem lt2_trans {a b c : Int × Int} (h1 : lt2 a b = true) (h2 : lt2 b c = true) : lt2 a c = true := by
  simp [lt2] at *; omega
theorem lt2_conn {a b : Int × Int} (h1 : lt2 a b = false) (h2 : lt2 b a = false) : a = b := by
  simp [lt2] at *; exact Prod.ext (by omega) (by omega)
theorem lt2_tail {a b c : Int × Int} (h1 : lt2 a b = true) (h2 : lt2 c b = false) : lt2 c a = false := by
  simp [lt2] at *; omega
theorem lt2_ftrans {a b c : Int × Int} (h1 : lt2 a b = false) (h2 : lt2 c a = false) : lt2 c b = false := by
  simp [lt2] at *; omega
theorem foldl_pick {f : List Int → Int × Int} : ∀ {l : List (List Int)} {q0 : List Int} {m0 : Int × Int}, m0 = f q0 → ((q0 :: l).Pairwise fun a b => before a b = true) →
    ∃ q, l.foldl (pick f) (some (q0, m0)) = some (q, f q) ∧ q ∈ q0 :: l ∧ ∀ p ∈ q0 :: l, lt2 (f p) (f q) = false ∧ (f p = f q → p = q ∨ before q p = true)
  | [], q0, m0, hm, hp => ⟨q0, by simp [hm], by simp, fun p hp => by simp at hp; subst hp; exact ⟨lt2_irrefl _, fun _ => .inl rfl⟩⟩
  | x :: l, q0, m0, hm, hp => by
    subst hm
    rw [List.foldl_cons, show pick f (some (q0, f q0)) x = if lt2 (f x) (f q0) = true then some (x, f x) else some (q0, f q0) from rfl]
    by_cases hlt : lt2 (f x) (f q0) = true
    · rw [if_pos hlt]
      obtain ⟨q, h1, h2, h3⟩ := foldl_pick (f := f) (l := l) (q0 := x) rfl (List.pairwise_cons.1 hp).2
      refine ⟨q, h1, by simp at h2 ⊢; exact .inr h2, fun p hp' => ?_⟩
      rcases List.mem_cons.1 hp' with rfl | h'
      · have hx := (h3 x (by simp)).1
        have hq : lt2 (f q) (f p) = true := by
          cases hc : lt2 (f q) (f p) with
          | true => rfl
          | false =>
            have := lt2_ftrans hc hx
            rw [hlt] at this; cases this
        refine ⟨?_, fun e => ?_⟩
        · cases hc : lt2 (f p) (f q) with
          | false => rfl
          | true => have := lt2_trans hq hc; rw [lt2_irrefl] at this; cases this
        · rw [e, lt2_irrefl] at hq; cases hq
      · exact h3 p h'
    · rw [if_neg hlt]
      have hp2 : (q0 :: l).Pairwise fun a b => before a b = true := by
        rw [List.pairwise_cons] at hp ⊢
        exact ⟨fun a ha => hp.1 a (by simp [ha]), (List.pairwise_cons.1 hp.2).2⟩
      obtain ⟨q, h1, h2, h3⟩ := foldl_pick (f := f) (l := l) (q0 := q0) rfl hp2
      refine ⟨q, h1, by simp at h2 ⊢; rcases h2 with h | h <;> simp [h], fun p hp' => ?_⟩
      have hx : ∀ p, p = x → lt2 (f p) (f q) = false ∧ (f p = f q → p = q ∨ before q p = true) := by
        rintro p rfl
        have h0 := (h3 q0 (by simp)).1
        have hlf : lt2 (f p) (f q0) = false := by simpa using hlt
        refine ⟨lt2_ftrans h0 hlf, fun e => ?_⟩
        rcases List.mem_cons.1 h2 with rfl | hq
        · exact .inr ((List.pairwise_cons.1 hp).1 p (by simp))
        · -- q lies behind p, and is asg good: then q0 is asg good
          have hq0 : f q0 = f q := by
            refine lt2_conn h0 ?_
            rw [← e]; exact hlf
          rcases (h3 q0 (by simp)).2 hq0 with h | h
          · exact .inr (h ▸ (List.pairwise_cons.1 hp).1 p (by simp))
          · have := before_asymm ((List.pairwise_cons.1 hp2).1 q hq)
            rw [h] at this; cases this
      rcases List.mem_cons.1 hp' with rfl | h'
      · exact h3 p (by simp)
      · rcases List.mem_cons.1 h' with h | h'
        · exact hx p h
        · exact h3 p (by simp [h'])
theorem least_some {f : List Int → Int × Int} {l : List (List Int)} (hs : l.Pairwise fun a b => before a b = true) (hl : l ≠ []) :
    ∃ q, least f l = some (q, f q) ∧ q ∈ l ∧ ∀ p ∈ l, lt2 (f p) (f q) = false ∧ (f p = f q → p = q ∨ before q p = true) := by
  rcases l with _ | ⟨x, l⟩
  · exact absurd rfl hl
  · exact foldl_pick rfl hs
theorem least_nil {f : List Int → Int × Int} : least f [] = none := rfl
end Go.Ab.M
namespace Go.Ab
open Go Go.RowKit
set_option linter.unusedVariables false
/-! ### conditions that are known; calls that change the heap -/
section
variable {P : Program} {b : Nat} {ro : Option Nat} {s : St} {K : Exit → St → Prop} {c : Operand} {x y : Code}
theorem T_ifT (hc : ev s c = some (.bool true)) (h : T P b ro x s K) : T P b ro (.cond c x y) s K := T_cond hc h
theorem T_ifF (hc : ev s c = some (.bool false)) (h : T P b ro y s K) : T P b ro (.cond c x y) s K := T_cond hc h
theorem RetS_finH {f : FuncId} {fn : Func} {args : List V} {h h' : List AObj} {r : V} (hf : P.funcs[f]? = some fn) {c' : Code} (hb : fn.body = some c') (hr : r.all (fun i => decide (i < h'.length)) = true) (hc : Closed h') (hl : h.length ≤ h'.length)
    (hT : T P h.length none c' ⟨enter fn args, h⟩ (finS P fn h' r)) : RetS P f args h r h' :=
  RetS_intro hf hb (hT.mono fun x s ⟨h1, h2, h3, h4⟩ => ⟨h1, h2, h'.length, hl, h4, h3, hr, hc⟩)
theorem finS_normal {fn : Func} {h : List AObj} {r r0 : V} {s : St} (h1 : resV P fn s = some r0) (h2 : s.h.take h.length = h) (h3 : h.length ≤ s.h.length) (h4 : r0 = r) : finS P fn h r .normal s := ⟨trivial, h4 ▸ h1, h2, h3⟩
theorem K_scope {s : St} (h : K .normal s) : scopeK K .normal s := h
theorem K_scopeE {j : Nat} {s : St} (h : K (.exit j) s) : scopeK K (.exit j) s := h
theorem K_scopeR {s : St} (h : K .ret s) : scopeK K .ret s := h
end
end Go.Ab
namespace Go.Ab
open Go Go.RowKit
set_option linter.unusedVariables false
/-! ### a list that is fed to the body of a loop over a function -/
theorem W_yld {P : Program} {F : Facts P} {ops : Array Oper} {l : List Nat} {s : St} {KK : St → Prop} {i : Nat} {o : Oper} {x : Operand} {args : Array Operand} {ts : Array TypeId} {j : Nat} {vs : List V} {r : V} {h' : List AObj} (ho : ops[i]? = some o) (hw : wantedV ops s o = some true)
    (hop : o.op = .call ⟨.value x, args, ts⟩) (hx : ev s x = some (.yield j)) (ha : evs s args.toList = some vs) (hr : RetY P j vs s.h r h') (k : RegW F ops l ⟨puts s.t o.dst r, h'⟩ KK) : RegW F ops (i :: l) s KK := by
  obtain ⟨s', h1, h2⟩ := k
  exact ⟨s', .cons (.yld ho hw hop hx ha hr) h1, h2⟩
inductive Feed {α : Type} (P : Program) (G : List AObj → Prop) (y : Nat) (e : α → V) : List α → List AObj → Bool → List AObj → Prop
  | nil {h : List AObj} (g : G h) : Feed P G y e [] h true h
  | stop {x : α} {l : List α} {h h' : List AObj} (g : G h) (g' : G h') (r : RetY P y [e x] h (.bool false) h') : Feed P G y e (x :: l) h false h'
  | go {x : α} {l : List α} {h h1 h' : List AObj} {b : Bool} (g : G h) (r : RetY P y [e x] h (.bool true) h1) (k : Feed P G y e l h1 b h') : Feed P G y e (x :: l) h b h'
section
variable {α : Type} {P : Program} {G : List AObj → Prop} {y : Nat} {e : α → V}
theorem Feed.good {l : List α} {h h' : List AObj} {b : Bool} (f : Feed P G y e l h b h') : G h ∧ G h' := by
  induction f with
  | nil g => exact ⟨g, g⟩
  | stop g g' _ => exact ⟨g, g'⟩
  | go g _ _ ih => exact ⟨g, ih.2⟩
theorem Feed.split {l m : List α} {h h' : List AObj} {b : Bool} (f : Feed P G y e (l ++ m) h b h') : ∃ b1 h1, Feed P G y e l h b1 h1 ∧ (b1 = true → Feed P G y e m h1 b h') ∧ (b1 = false → b = false ∧ h1 = h') := by
  induction l generalizing h with
  | nil => exact ⟨true, h, .nil f.good.1, fun _ => f, fun he => nomatch he⟩
  | cons x l ih =>
    cases f with
    | stop g g' r => exact ⟨false, h', .stop g g' r, (fun he => nomatch he), fun _ => ⟨rfl, rfl⟩⟩
    | go g r k =>
      obtain ⟨b1, h1, k1, k2, k3⟩ := ih k
      exact ⟨b1, h1, .go g r k1, k2, k3⟩
theorem Feed.end {h h' : List AObj} {b : Bool} (f : Feed P G y e [] h b h') : b = true ∧ h' = h := by cases f; exact ⟨rfl, rfl⟩
theorem Feed.one {x : α} {h h' : List AObj} {b : Bool} (f : Feed P G y e [x] h b h') : RetY P y [e x] h (.bool b) h' := by
  cases f with
  | stop g g' r => exact r
  | go g r k => obtain ⟨rfl, rfl⟩ := k.end; exact r
/-- A receiver whose data are as good as others. -/
theorem Ret.sub1 {f : FuncId} {x x' : V} {xs : List V} {r : V} (hx : ∀ (E : Env) v, Rel E x v → Rel E x' v) (h : Ret P f (x' :: xs) r) : Ret P f (x :: xs) r := by
  intro bad w cargs hb hR
  refine h bad w cargs hb ?_
  unfold RelL at hR ⊢
  obtain ⟨u, us, e, hu, hus⟩ := hR
  exact ⟨u, us, e, hx _ _ hu, hus⟩
end
theorem heap_new2 (h l : List AObj) (o p q : AObj) : (h ++ o :: p :: q :: l)[h.length + 2]? = some q := by simp
theorem heap_set2 (h l : List AObj) (o p q r : AObj) : (h ++ o :: p :: q :: l).set (h.length + 2) r = h ++ o :: p :: r :: l := by
  rw [List.set_append_right _ _ (by omega)]; simp
end Go.Ab
namespace Go.Ab
open Go Go.RowKit
/-! ### bodies of loops over functions -/
/-- The first loop over a function in a piece of code: how it takes what comes, and its body. -/
def rfOf : Code → Option (Code × Code)
  | .rangeFunc _ _ a b => some (a, b)
  | .seq x y => match rfOf x with
    | some r => some r
    | none => rfOf y
  | .block _ c => rfOf c
  | .scope c => rfOf c
  | .loop c => rfOf c
  | .cond _ x y => match rfOf x with
    | some r => some r
    | none => rfOf y
  | _ => none
def asOf (fn : Func) : Code := match fn.body with
  | some c => (match rfOf c with
    | some (a, _) => a
    | none => .skip)
  | none => .skip
def bdOf (fn : Func) : Code := match fn.body with
  | some c => (match rfOf c with
    | some (_, b) => b
    | none => .skip)
  | none => .skip
theorem yas_next {P : Program} {b i : Nat} {ro : Option Nat} {s1 : St} {bd : Code} {K : Exit → St → Prop} {pe1 : Option Code} {tm1 : List V} {ps1 : Array Tmp} {as1 bd1 : Code} (ho : s1.h[i]? = some (.loop .ready pe1 tm1 ps1 as1 bd1)) (hT : T P b ro bd ⟨s1.t, s1.h.set i (.loop .busy pe1 tm1 ps1 as1 bd1)⟩ K) :
    Exit.normal = .normal ∧ ∃ pe1 tm1 ps1 as1 bd1, s1.h[i]? = some (.loop .ready pe1 tm1 ps1 as1 bd1) ∧ T P b ro bd ⟨s1.t, s1.h.set i (.loop .busy pe1 tm1 ps1 as1 bd1)⟩ K := ⟨rfl, _, _, _, _, _, ho, hT⟩
def Clo (n : Nat) (h : List AObj) : Prop := ∀ o ∈ h, o.all (fun i => decide (i < n)) = true
section
variable {b i : Nat} {r : V} {h' : List AObj} {s : St} {pe : Option Code} {tm : List V} {ps : Array Tmp} {asg bd : Code}
theorem round_normal (ho : s.h[i]? = some (.loop .busy pe tm ps asg bd)) (hr : r = .bool true) (hn : b ≤ s.h.length) (ht : (s.h.set i (.loop .ready none tm ps asg bd)).take b = h') (hc : Clo b h') : roundK b i r h' .normal s :=
  ⟨none, pe, tm, ps, asg, bd, b, rfl, ho, hr, Nat.le_refl _, hn, ht, hc⟩
theorem round_ret (ho : s.h[i]? = some (.loop .busy pe tm ps asg bd)) (hr : r = .bool false) (hn : b ≤ s.h.length) (ht : (s.h.set i (.loop .done (some .ret) tm ps asg bd)).take b = h') (hc : Clo b h') : roundK b i r h' .ret s :=
  ⟨some .ret, pe, tm, ps, asg, bd, b, rfl, ho, hr, Nat.le_refl _, hn, ht, hc⟩
end
end Go.Ab
namespace Go.Ab
open Go Go.RowKit Go.Proofs
set_option linter.unusedVariables false
attribute [go_sem] Try.underlying22 Try.underlying23 Try.underlying24 Try.underlying25 Try.underlying26
theorem fo35_0 (a b : V) : fieldOfV Try.prog 35 (.agg [a, b]) 0 = some a := by kernel_rfl
attribute [go_sem] fo35_0
/-! ### what the search needs to know -/
/-- A town that is looked at, with what is handed in as its plan. -/
def cX (t : Town) (pl : V) : List V := [.sl 1 (rL t.walk), .int .i64 t.reach, .sl 1 (rI t.schools), .sl 1 (rB t.gone), .sl 3 (rH t.houses), .sl 2 (rP t.kin), pl]
theorem cX_eq (t : Town) (pl : V) : cX t pl = [.sl 1 (rL t.walk), .int .i64 t.reach, .sl 1 (rI t.schools), .sl 1 (rB t.gone), .sl 3 (rH t.houses), .sl 2 (rP t.kin), pl] := rfl
/-- What may be handed in as a plan. -/
def PlV (pl : V) : Prop := pl = .nil ∨ ∃ q : List Int, pl = .sl 1 (rI q)
theorem PlV.nil : PlV .nil := .inl rfl
theorem PlV.sl (q : List Int) : PlV (.sl 1 (rI q)) := .inr ⟨q, rfl⟩
theorem PlV.re {pl : V} (h : PlV pl) : ∃ q : List Int, ∀ (E : Env) v, Rel E pl v → Rel E (.sl 1 (rI q)) v := by
  rcases h with rfl | ⟨q, rfl⟩
  · refine ⟨[], fun E v h => ?_⟩
    simp only [Rel] at h ⊢
    exact ⟨none, 0, h, by simp [rI], .inl rfl⟩
  · exact ⟨q, fun E v h => h⟩
theorem PlV.rel {t : Town} {pl : V} (h : PlV pl) : ∃ q : List Int, ∀ (E : Env) v, Rel E (.agg (cX t pl)) v → Rel E (.agg (cW t q)) v := by
  obtain ⟨q, hq⟩ := h.re
  refine ⟨q, fun E v hr => ?_⟩
  unfold Rel at hr ⊢
  obtain ⟨vs, rfl, hL⟩ := hr
  refine ⟨vs, rfl, ?_⟩
  simp only [cX, cW, RelL] at hL ⊢
  obtain ⟨u1, l1, e1, r1, u2, l2, e2, r2, u3, l3, e3, r3, u4, l4, e4, r4, u5, l5, e5, r5, u6, l6, e6, r6, u7, l7, e7, r7, e8⟩ := hL
  exact ⟨u1, l1, e1, r1, u2, l2, e2, r2, u3, l3, e3, r3, u4, l4, e4, r4, u5, l5, e5, r5, u6, l6, e6, r6, u7, l7, e7, hq _ _ r7, e8⟩
/-- What gone1 hands back. -/
def M.nx (t : Town) (p : List Int) (n : Int) : V := if M.goesB t p n = true then .sl 1 (rI (p ++ [n])) else .nil
theorem M.goesB_iff {t : Town} {p : List Int} {n : Int} : M.goesB t p n = true ↔ p.contains n = false ∧ M.gone t n = false ∧ ¬ M.rank t p.length n < 0 := by
  unfold M.goesB
  cases p.contains n <;> cases M.gone t n <;> simp
theorem mv_gone1A {t : Town} {pl : V} (hpl : PlV pl) {p : List Int} {n : Int} (h1 : 0 ≤ n) (h2 : n.toNat < t.gone.length) (h3 : t.houses.length ≤ 1000) (h4 : p.length < t.houses.length) (hp : p ≠ []) : Ret Try.prog 84 [.agg (cX t pl), .sl 1 (rI p), .int .i64 n] (.tup [M.nx t p n, .bool (M.goesB t p n)]) := by
  obtain ⟨q, hq⟩ := hpl.rel (t := t)
  refine Ret.sub1 hq ?_
  obtain ⟨x, l, rfl⟩ := List.exists_cons_of_ne_nil hp
  unfold M.nx
  by_cases hg : M.goesB t (x :: l) n = true
  · rw [if_pos hg, hg]
    have := mv_goes1 t q n h1 h2 h3 x l h4 (M.goesB_iff.1 hg)
    rw [rI_snoc] at this
    exact mv_gone1ok1 t q n (x :: l) _ this
  · rw [if_neg hg]
    have hg' : M.goesB t (x :: l) n = false := by simpa using hg
    rw [hg']
    refine mv_gone1no1 t q n (x :: l) (((x :: l).length : Nat) : Int) (mv_goes1p t q n h1 h2 h3 x l h4 ?_)
    rw [M.goesB_iff] at hg
    cases hc : (x :: l).contains n with
    | true => exact .inl rfl
    | false =>
      cases hgo : M.gone t n with
      | true => exact .inr (.inl rfl)
      | false =>
        right; right
        simp only [hc, hgo, true_and, Decidable.not_not] at hg
        exact hg
theorem mv_gone1N {t : Town} {pl : V} (hpl : PlV pl) {n : Int} (h1 : 0 ≤ n) (h2 : n.toNat < t.gone.length) (h3 : t.houses.length ≤ 1000) (h4 : 0 < t.houses.length) : Ret Try.prog 84 [.agg (cX t pl), .nil, .int .i64 n] (.tup [M.nx t [] n, .bool (M.goesB t [] n)]) := by
  obtain ⟨q, hq⟩ := hpl.rel (t := t)
  refine Ret.sub1 hq ?_
  unfold M.nx
  by_cases hg : M.goesB t [] n = true
  · rw [if_pos hg, hg]
    have hgi := M.goesB_iff.1 hg
    have := mv_goes0 t q n h1 h2 h3 h4 ⟨hgi.2.1, hgi.2.2⟩
    exact mv_gone1ok0 t q n [n] this
  · rw [if_neg hg]
    have hg' : M.goesB t [] n = false := by simpa using hg
    rw [hg']
    refine mv_gone1no0 t q n ((0 : Nat) : Int) (mv_goes0p t q n h1 h2 h3 h4 ?_)
    rw [M.goesB_iff] at hg
    cases hgo : M.gone t n with
    | true => exact .inl rfl
    | false =>
      right
      simp only [List.contains_nil, hgo, true_and, Decidable.not_not, List.length_nil] at hg
      exact hg
def boxes (t : Town) (pl : V) (y i j k : Nat) (h : List AObj) : Prop := h[i]? = some (.box 69 (cX t pl)) ∧ h[j]? = some (.box 99 [.yield y]) ∧ h[k]? = some (.box 99 [.fn 83 [] [.ptr i 0, .ptr j 0, .ptr k 0]])
/-- The heap while the search goes on. -/
def Gs (t : Town) (pl : V) (y i j k N : Nat) (h : List AObj) : Prop := Closed h ∧ h.length = N ∧ boxes t pl y i j k h
def ePl (p : List Int) : V := .sl 1 (rI p)
abbrev FeedP (t : Town) (pl : V) (y i j k N : Nat) := Feed (α := List Int) Try.prog (Gs t pl y i j k N) y ePl
def M.rest (t : Town) (m : Nat) (p : List Int) (n : Nat) : List (List Int) := (List.range' n (t.walk.length - n)).flatMap fun (k : Nat) => if M.goesB t p k = true then M.dfs t m (p ++ [(k : Int)]) else []
theorem M.rest_zero (t : Town) (m : Nat) (p : List Int) : M.dfs t (m + 1) p = M.rest t m p 0 := by
  rw [M.dfs, M.rest, List.range_eq_range', Nat.sub_zero]
theorem M.rest_step {t : Town} {m : Nat} {p : List Int} {n : Nat} (h : n < t.walk.length) : M.rest t m p n = (if M.goesB t p n = true then M.dfs t m (p ++ [(n : Int)]) else []) ++ M.rest t m p (n + 1) := by
  unfold M.rest
  rw [show t.walk.length - n = (t.walk.length - (n + 1)) + 1 by omega, List.range'_succ, List.flatMap_cons]
theorem M.rest_end {t : Town} {m : Nat} {p : List Int} {n : Nat} (h : t.walk.length ≤ n) : M.rest t m p n = [] := by
  unfold M.rest
  rw [show t.walk.length - n = 0 by omega]; rfl
end Go.Ab
namespace Go.Ab
open Go Go.RowKit Go.Proofs Fac
set_option linter.unusedVariables false
set_option linter.unusedSimpArgs false
set_option maxRecDepth 4000
set_option maxHeartbeats 1000000





theorem mv_searchA (t : Town) (pl : V) (hpl : PlV pl) (ok : M.Ok t) (hh : t.houses.length ≤ 1000) (hsl : t.schools.length ≤ 9223372036854775807) (y i j k N : Nat) (h h' : List AObj) (b : Bool) (p : List Int) (hp : M.plan t p = true) (al : (M.fault t p).1 = 1) (g : Gs t pl y i j k N h) (g' : Gs t pl y i j k N h') (hy : RetY Try.prog y [.sl 1 (rI p)] h (.bool b) h') : RetS Try.prog 83 [.sl 1 (rI p), .ptr i 0, .ptr j 0, .ptr k 0] h (.bool b) (h') := by
  obtain ⟨gc, gl, gi, gj, gk⟩ := g
  obtain ⟨gc', gl', gi', gj', gk'⟩ := g'
  have hle : h.length ≤ h'.length := by omega
  have hpe0 := hpl
  have hl := (M.plan_iff.1 hp).1
  rcases hpe0 with hpe | ⟨q, hpe⟩
  all_goals (
  apply RetS_finH (fn := Try.f83) Try.func83 rfl (by simp [V.all]) gc' hle
  apply T_seq
  apply T_r F
  · (simp only [go_sem, Try.ntmps83, cX_eq, gi, gj, gk, hpe, al, hl]) <;> exact rfl
  apply K_seq
  apply T_seq
  apply T_seq
  apply T_r F
  · (simp only [go_sem, Try.ntmps83, cX_eq, gi, gj, gk, hpe, al, hl]) <;> exact rfl
  apply K_seq
  apply T_ifT -- h0
  · (simp only [go_sem, Try.ntmps83, cX_eq, gi, gj, gk, hpe, al, hl]) <;> exact rfl
  apply T_seq
  apply T_wL F [0, 1, 2, 3, 4, 5, 6, 7, 8, 9, 10, 11, 12] rfl
  apply W_pre [0, 1, 2, 3] [4, 5, 6, 7, 8, 9, 10, 11, 12]
  · (simp only [go_sem, Try.ntmps83, cX_eq, gi, gj, gk, hpe, al, hl]) <;> exact rfl
  apply W_call -- call 0 of function 48
  · (simp only [go_sem, Try.ntmps83, cX_eq, gi, gj, gk, hpe, al, hl]) <;> exact rfl
  · (simp only [go_sem, Try.ntmps83, cX_eq, gi, gj, gk, hpe, al, hl]) <;> exact rfl
  · exact rfl
  · (simp only [go_sem, Try.ntmps83, cX_eq, gi, gj, gk, hpe, al, hl]) <;> exact rfl
  · (simp only [go_sem, Try.ntmps83, cX_eq, gi, gj, gk, hpe, al, hl]) <;> exact rfl
  · exact ⟨_, Try.func48, rfl, rfl⟩
  · (simp only [go_sem, Try.ntmps83, cX_eq, gi, gj, gk, hpe, al, hl]) <;> exact rfl
  · (simp only [go_sem, Try.ntmps83, cX_eq, gi, gj, gk, hpe, al, hl]) <;> exact rfl
  · exact mv_fault _ _ ok hp hsl (by have := ok.kin; omega)
  apply W_pre [5, 6, 7, 8, 9] [10, 11, 12]
  · (simp only [go_sem, Try.ntmps83, cX_eq, gi, gj, gk, hpe, al, hl]) <;> exact rfl
  apply W_yld -- call 1
  · (simp only [go_sem, Try.ntmps83, cX_eq, gi, gj, gk, hpe, al, hl]) <;> exact rfl
  · (simp only [go_sem, Try.ntmps83, cX_eq, gi, gj, gk, hpe, al, hl]) <;> exact rfl
  · exact rfl
  · (simp only [go_sem, Try.ntmps83, cX_eq, gi, gj, gk, hpe, al, hl]) <;> exact rfl
  · (simp only [go_sem, Try.ntmps83, cX_eq, gi, gj, gk, hpe, al, hl]) <;> exact rfl
  · exact hy
  apply W_run
  · (simp only [go_sem, Try.ntmps83, cX_eq, gi, gj, gk, hpe, al, hl]) <;> exact rfl
  apply W_nil
  apply K_seq
  apply T_ret
  apply K_seqR
  apply finS_ret
  · (simp only [go_sem, Try.ntmps83, cX_eq, gi, gj, gk, hpe, al, hl, Try.f83]) <;> exact rfl
  · simp
  · exact Nat.le_refl _
  -- leaf 0 (ret)
  
  all_goals rfl)

theorem mv_searchB (t : Town) (pl : V) (hpl : PlV pl) (ok : M.Ok t) (hh : t.houses.length ≤ 1000) (hsl : t.schools.length ≤ 9223372036854775807) (y i j k N : Nat) (h h' : List AObj) (b : Bool) (p : List Int) (hp : M.plan t p = true) (al : ((M.fault t p).1 != 1) = true) (g : Gs t pl y i j k N h) (g' : Gs t pl y i j k N h') (hb : b = true) (hy : h' = h) : RetS Try.prog 83 [.sl 1 (rI p), .ptr i 0, .ptr j 0, .ptr k 0] h (.bool b) (h') := by
  obtain ⟨gc, gl, gi, gj, gk⟩ := g
  obtain ⟨gc', gl', gi', gj', gk'⟩ := g'
  have hle : h.length ≤ h'.length := by omega
  have hpe0 := hpl
  have hl := (M.plan_iff.1 hp).1
  subst hb
  subst hy
  rcases hpe0 with hpe | ⟨q, hpe⟩
  all_goals (
  apply RetS_finH (fn := Try.f83) Try.func83 rfl (by simp [V.all]) gc' hle
  apply T_seq
  apply T_r F
  · (simp only [go_sem, Try.ntmps83, cX_eq, gi, gj, gk, hpe, al, hl]) <;> exact rfl
  apply K_seq
  apply T_seq
  apply T_seq
  apply T_r F
  · (simp only [go_sem, Try.ntmps83, cX_eq, gi, gj, gk, hpe, al, hl]) <;> exact rfl
  apply K_seq
  apply T_ifT -- h0
  · (simp only [go_sem, Try.ntmps83, cX_eq, gi, gj, gk, hpe, al, hl]) <;> exact rfl
  apply T_seq
  apply T_wL F [0, 1, 2, 3, 4, 5, 6, 7, 8, 9, 10, 11, 12] rfl
  apply W_pre [0, 1, 2, 3] [4, 5, 6, 7, 8, 9, 10, 11, 12]
  · (simp only [go_sem, Try.ntmps83, cX_eq, gi, gj, gk, hpe, al, hl]) <;> exact rfl
  apply W_call -- call 0 of function 48
  · (simp only [go_sem, Try.ntmps83, cX_eq, gi, gj, gk, hpe, al, hl]) <;> exact rfl
  · (simp only [go_sem, Try.ntmps83, cX_eq, gi, gj, gk, hpe, al, hl]) <;> exact rfl
  · exact rfl
  · (simp only [go_sem, Try.ntmps83, cX_eq, gi, gj, gk, hpe, al, hl]) <;> exact rfl
  · (simp only [go_sem, Try.ntmps83, cX_eq, gi, gj, gk, hpe, al, hl]) <;> exact rfl
  · exact ⟨_, Try.func48, rfl, rfl⟩
  · (simp only [go_sem, Try.ntmps83, cX_eq, gi, gj, gk, hpe, al, hl]) <;> exact rfl
  · (simp only [go_sem, Try.ntmps83, cX_eq, gi, gj, gk, hpe, al, hl]) <;> exact rfl
  · exact mv_fault _ _ ok hp hsl (by have := ok.kin; omega)
  apply W_pre [5, 6, 7, 8] [9, 10, 11, 12]
  · (simp only [go_sem, Try.ntmps83, cX_eq, gi, gj, gk, hpe, al, hl]) <;> exact rfl
  apply W_run
  · (simp only [go_sem, Try.ntmps83, cX_eq, gi, gj, gk, hpe, al, hl]) <;> exact rfl
  apply W_nil
  apply K_seq
  apply T_ret
  apply K_seqR
  apply finS_ret
  · (simp only [go_sem, Try.ntmps83, cX_eq, gi, gj, gk, hpe, al, hl, Try.f83]) <;> exact rfl
  · simp
  · exact Nat.le_refl _
  -- leaf 0 (ret)
  
  all_goals rfl)

theorem mv_searchC (t : Town) (pl : V) (hpl : PlV pl) (ok : M.Ok t) (hh : t.houses.length ≤ 1000) (hsl : t.schools.length ≤ 9223372036854775807) (y i j k N : Nat) (h h' : List AObj) (b : Bool) (p : List Int) (hp0 : p ≠ []) (hl0 : p.length < t.houses.length) (m : Nat) (hd : FeedP t pl y i j k N (M.dfs t (m + 1) p) h b h')
  (ih : ∀ (n : Nat) (h1 h2 : List AObj) (b1 : Bool), n < t.walk.length → M.goesB t p n = true → FeedP t pl y i j k N (M.dfs t m (p ++ [(n : Int)])) h1 b1 h2 → RetS Try.prog 83 [.sl 1 (rI (p ++ [(n : Int)])), .ptr i 0, .ptr j 0, .ptr k 0] h1 (.bool b1) h2) : RetS Try.prog 83 [.sl 1 (rI p), .ptr i 0, .ptr j 0, .ptr k 0] h (.bool b) (h') := by
  have hg := hd.good
  obtain ⟨⟨gc, gl, gi, gj, gk⟩, ⟨gc', gl', gi', gj', gk'⟩⟩ := hg
  have hle : h.length ≤ h'.length := by omega
  have hpe0 := hpl
  have hwl := ok.walks.2.2
  rw [M.inr_iff] at hwl
  rw [M.rest_zero] at hd
  have hgo := ok.gone
  have hgA := fun (n : Int) (h1 : 0 ≤ n) (h2 : n.toNat < t.gone.length) => mv_gone1A hpl h1 h2 hh hl0 hp0
  have hl : ((p.length : Int) == (t.houses.length : Int)) = false := by simp; omega
  rcases hpe0 with hpe | ⟨q, hpe⟩
  all_goals (
  apply RetS_finH (fn := Try.f83) Try.func83 rfl (by simp [V.all]) gc' hle
  apply T_seq
  apply T_r F
  · (simp only [go_sem, Try.ntmps83, cX_eq, hpe, hl, gi, gj, gk]) <;> exact rfl
  apply K_seq
  apply T_seq
  apply T_seq
  apply T_r F
  · (simp only [go_sem, Try.ntmps83, cX_eq, hpe, hl, gi, gj, gk]) <;> exact rfl
  apply K_seq
  apply T_ifF -- h0
  · (simp only [go_sem, Try.ntmps83, cX_eq, hpe, hl, gi, gj, gk]) <;> exact rfl
  apply T_skip
  apply K_seq
  apply T_seq
  apply T_seq
  apply T_r F
  · (simp only [go_sem, Try.ntmps83, cX_eq, hpe, hl, gi, gj, gk]) <;> exact rfl
  apply K_seq
  apply T_block
  apply T_lp (α := Nat × List AObj) [true, true, false, true, false, false, false, false, false, false, false, false, false, false, false, false, false, false, false, false, false, false, false, false, false, false, false, false, false, false, false, true, true, false, false, false, false, false, false, false, false, false, false, false, false, false, false, false, false, false] (fun ⟨n, hk⟩ => (⟨[.sl 1 (rI p), .ptr i 0, .undef, .ptr k 0, .undef, .undef, .undef, .undef, .undef, .undef, .undef, .undef, .undef, .undef, .undef, .undef, .undef, .undef, .undef, .undef, .undef, .undef, .undef, .undef, .undef, .undef, .undef, .undef, .undef, .undef, .undef, .int .i64 (t.walk.length : Int), .int .i64 (n : Int), .undef, .undef, .undef, .undef, .undef, .undef, .undef, .undef, .undef, .undef, .undef, .undef, .undef, .undef, .undef, .undef, .undef], hk⟩ : St)) (fun ⟨n, hk⟩ => n ≤ t.walk.length ∧ FeedP t pl y i j k N (M.rest t m p n) hk b h') (fun ⟨n, hk⟩ => t.walk.length - n) ((0, h))
  · (simp only [go_sem, Try.ntmps83, cX_eq, hpe, hl, gi, gj, gk]) <;> exact rfl
  · exact ⟨Nat.zero_le _, hd⟩
  · rintro ⟨n, hk⟩ ⟨hn, hf⟩
    have hgk := hf.good.1
    obtain ⟨hc2, hl2, gi2, gj2, gk2⟩ := hgk
    apply T_seq
    apply T_r F
    · (simp only [go_sem, Try.ntmps83, cX_eq, hpe, hl, gi, gj, gk, gi2, gj2, gk2]) <;> exact rfl
    apply K_seq
    apply T_seq
    apply T_if
    · (simp only [go_sem, Try.ntmps83, cX_eq, hpe, hl, gi, gj, gk, gi2, gj2, gk2]) <;> exact rfl
    · intro bh1t
      have h1t := bh1t
      try simp only [CS] at h1t
      try simp only [BS] at bh1t
      try exact absurd bh1t (by decide)
      all_goals (
  have hb : n < 9223372036854775807 := by omega
  rw [M.rest_step h1t] at hf
  apply T_skip
  apply K_seq
  apply T_seq
  apply T_block
  apply T_seq
  apply T_r F
  · (simp only [go_sem, Try.ntmps83, cX_eq, hpe, hl, gi, gj, gk, gi2, gj2, gk2, bh1t, h1t, hb]) <;> exact rfl
  apply K_seq
  apply T_seq
  apply T_wL F [0, 1, 2, 3, 4, 5, 6, 7, 8] rfl
  apply W_pre [0, 1, 2] [3, 4, 5, 6, 7, 8]
  · (simp only [go_sem, Try.ntmps83, cX_eq, hpe, hl, gi, gj, gk, gi2, gj2, gk2, bh1t, h1t, hb]) <;> exact rfl
  apply W_call -- call 0 of function 84
  · (simp only [go_sem, Try.ntmps83, cX_eq, hpe, hl, gi, gj, gk, gi2, gj2, gk2, bh1t, h1t, hb]) <;> exact rfl
  · (simp only [go_sem, Try.ntmps83, cX_eq, hpe, hl, gi, gj, gk, gi2, gj2, gk2, bh1t, h1t, hb]) <;> exact rfl
  · exact rfl
  · (simp only [go_sem, Try.ntmps83, cX_eq, hpe, hl, gi, gj, gk, gi2, gj2, gk2, bh1t, h1t, hb]) <;> exact rfl
  · (simp only [go_sem, Try.ntmps83, cX_eq, hpe, hl, gi, gj, gk, gi2, gj2, gk2, bh1t, h1t, hb]) <;> exact rfl
  · exact ⟨_, Try.func84, rfl, rfl⟩
  · (simp only [go_sem, Try.ntmps83, cX_eq, hpe, hl, gi, gj, gk, gi2, gj2, gk2, bh1t, h1t, hb]) <;> exact rfl
  · (simp only [go_sem, Try.ntmps83, cX_eq, hpe, hl, gi, gj, gk, gi2, gj2, gk2, bh1t, h1t, hb]) <;> exact rfl
  · rw [hpe] at hgA
    exact hgA _ (by omega) (by omega)
  apply W_run
  · (simp only [go_sem, Try.ntmps83, cX_eq, hpe, hl, gi, gj, gk, gi2, gj2, gk2, bh1t, h1t, hb]) <;> exact rfl
  apply W_nil
  apply K_seq
  apply T_seq
  apply T_wL F [0, 1, 2, 3, 4, 5, 6] rfl
  apply W_pre [0, 1] [2, 3, 4, 5, 6]
  · (simp only [go_sem, Try.ntmps83, cX_eq, hpe, hl, gi, gj, gk, gi2, gj2, gk2, bh1t, h1t, hb]) <;> exact rfl
  apply W_guard
  · (simp only [go_sem, Try.ntmps83, cX_eq, hpe, hl, gi, gj, gk, gi2, gj2, gk2, bh1t, h1t, hb]) <;> exact rfl
  · (simp only [go_sem, Try.ntmps83, cX_eq, hpe, hl, gi, gj, gk, gi2, gj2, gk2, bh1t, h1t, hb]) <;> exact rfl
  · intro bg0t
    have g0t := bg0t
    try simp only [CS] at g0t
    try simp only [BS] at bg0t
    try exact absurd bg0t (by decide)
    all_goals (
  rw [if_pos bg0t] at hf
  obtain ⟨b1, h1, hf1, hf2, hf3⟩ := hf.split
  have hnx : M.nx t p n = .sl 1 (rI (p ++ [(n : Int)])) := if_pos bg0t
  apply W_pre [2, 3] [4, 5, 6]
  · (simp only [go_sem, Try.ntmps83, cX_eq, hpe, hl, gi, gj, gk, gi2, gj2, gk2, bh1t, h1t, hb, bg0t, hnx]) <;> exact rfl
  apply W_callS -- call 1
  · (simp only [go_sem, Try.ntmps83, cX_eq, hpe, hl, gi, gj, gk, gi2, gj2, gk2, bh1t, h1t, hb, bg0t, hnx]) <;> exact rfl
  · (simp only [go_sem, Try.ntmps83, cX_eq, hpe, hl, gi, gj, gk, gi2, gj2, gk2, bh1t, h1t, hb, bg0t, hnx]) <;> exact rfl
  · exact rfl
  · (simp only [go_sem, Try.ntmps83, cX_eq, hpe, hl, gi, gj, gk, gi2, gj2, gk2, bh1t, h1t, hb, bg0t, hnx]) <;> exact rfl
  · (simp only [go_sem, Try.ntmps83, cX_eq, hpe, hl, gi, gj, gk, gi2, gj2, gk2, bh1t, h1t, hb, bg0t, hnx]) <;> exact rfl
  · exact ⟨_, Try.func83, rfl, rfl⟩
  · exact ih n _ _ _ h1t bg0t hf1
  apply W_run
  · (simp only [go_sem, Try.ntmps83, cX_eq, hpe, hl, gi, gj, gk, gi2, gj2, gk2, bh1t, h1t, hb, bg0t, hnx]) <;> exact rfl
  apply W_nil
  apply K_seq
  apply T_if
  · (simp only [go_sem, Try.ntmps83, cX_eq, hpe, hl, gi, gj, gk, gi2, gj2, gk2, bh1t, h1t, hb, bg0t, hnx]) <;> exact rfl
  · intro bh2t
    have h2t := bh2t
    try simp only [CS] at h2t
    try simp only [BS] at bh2t
    try exact absurd bh2t (by decide)
    all_goals (
  obtain ⟨rfl, rfl⟩ := hf3 bh2t
  apply T_seq
  apply T_r F
  · (simp only [go_sem, Try.ntmps83, cX_eq, hpe, hl, gi, gj, gk, gi2, gj2, gk2, bh1t, h1t, hb, bg0t, hnx, bh2t]) <;> exact rfl
  apply K_seq
  apply T_ret
  apply K_blkR
  apply K_seqR
  apply K_lpR
  apply K_blkR
  apply K_seqR
  apply finS_ret
  · (simp only [go_sem, Try.ntmps83, cX_eq, hpe, hl, gi, gj, gk, gi2, gj2, gk2, bh1t, h1t, hb, bg0t, hnx, bh2t, Try.f83]) <;> exact rfl
  · simp
  · exact Nat.le_refl _
  -- leaf 0 (ret)
  
  all_goals rfl)
  · intro bh2f
    have h2f := bh2f
    try simp only [CS] at h2f
    try simp only [BS] at bh2f
    try exact absurd bh2f (by decide)
    all_goals (
  have hf4 := hf2 bh2f
  apply T_skip
  apply K_blk
  apply K_seq
  apply T_r F
  · (simp only [go_sem, Try.ntmps83, cX_eq, hpe, hl, gi, gj, gk, gi2, gj2, gk2, bh1t, h1t, hb, bg0t, hnx, bh2f]) <;> exact rfl
  refine K_lp ((n + 1, h1)) ?_ ?_
  · (simp only [go_sem, Try.ntmps83, cX_eq, hpe, hl, gi, gj, gk, gi2, gj2, gk2, bh1t, h1t, hb, bg0t, hnx, bh2f]) <;> exact rfl
  -- leaf 1 (loop0)
  exact ⟨⟨by omega, hf4⟩, by simp only; omega⟩))
  · intro bg0f
    have g0f := bg0f
    try simp only [CS] at g0f
    try simp only [BS] at bg0f
    try exact absurd bg0f (by decide)
    all_goals (
  rw [if_neg (by simp [bg0f]), List.nil_append] at hf
  apply W_run
  · (simp only [go_sem, Try.ntmps83, cX_eq, hpe, hl, gi, gj, gk, gi2, gj2, gk2, bh1t, h1t, hb, bg0f]) <;> exact rfl
  apply W_nil
  apply K_seq
  apply T_if
  · (simp only [go_sem, Try.ntmps83, cX_eq, hpe, hl, gi, gj, gk, gi2, gj2, gk2, bh1t, h1t, hb, bg0f]) <;> exact rfl
  · intro bh3t
    exact absurd bh3t (by simp)
  · intro bh3f
    have h3f := bh3f
    try simp only [CS] at h3f
    try simp only [BS] at bh3f
    try exact absurd bh3f (by decide)
    all_goals (
  apply T_skip
  apply K_blk
  apply K_seq
  apply T_r F
  · (simp only [go_sem, Try.ntmps83, cX_eq, hpe, hl, gi, gj, gk, gi2, gj2, gk2, bh1t, h1t, hb, bg0f, bh3f]) <;> exact rfl
  refine K_lp ((n + 1, hk)) ?_ ?_
  · (simp only [go_sem, Try.ntmps83, cX_eq, hpe, hl, gi, gj, gk, gi2, gj2, gk2, bh1t, h1t, hb, bg0f, bh3f]) <;> exact rfl
  -- leaf 2 (loop0)
  exact ⟨⟨by omega, hf⟩, by simp only; omega⟩)))
    · intro bh1f
      have h1f := bh1f
      try simp only [CS] at h1f
      try simp only [BS] at bh1f
      try exact absurd bh1f (by decide)
      all_goals (
  rw [M.rest_end (by omega)] at hf
  obtain ⟨rfl, rfl⟩ := hf.end
  apply T_exit
  apply K_seqE
  apply K_lpE
  apply K_blkE
  apply K_seq
  apply T_seq
  apply T_r F
  · (simp only [go_sem, Try.ntmps83, cX_eq, hpe, hl, gi, gj, gk, gi2, gj2, gk2, bh1f]) <;> exact rfl
  apply K_seq
  apply T_ret
  apply finS_ret
  · (simp only [go_sem, Try.ntmps83, cX_eq, hpe, hl, gi, gj, gk, gi2, gj2, gk2, bh1f, Try.f83]) <;> exact rfl
  · simp
  · exact Nat.le_refl _
  -- leaf 3 (ret)
  
  all_goals rfl))

theorem mv_searchD (t : Town) (pl : V) (hpl : PlV pl) (ok : M.Ok t) (hh : t.houses.length ≤ 1000) (hsl : t.schools.length ≤ 9223372036854775807) (y i j k N : Nat) (h h' : List AObj) (b : Bool) (hl0 : 0 < t.houses.length) (m : Nat) (hd : FeedP t pl y i j k N (M.dfs t (m + 1) []) h b h')
  (ih : ∀ (n : Nat) (h1 h2 : List AObj) (b1 : Bool), n < t.walk.length → M.goesB t [] n = true → FeedP t pl y i j k N (M.dfs t m ([] ++ [(n : Int)])) h1 b1 h2 → RetS Try.prog 83 [.sl 1 (rI ([] ++ [(n : Int)])), .ptr i 0, .ptr j 0, .ptr k 0] h1 (.bool b1) h2) : RetS Try.prog 83 [.nil, .ptr i 0, .ptr j 0, .ptr k 0] h (.bool b) (h') := by
  have hg := hd.good
  obtain ⟨⟨gc, gl, gi, gj, gk⟩, ⟨gc', gl', gi', gj', gk'⟩⟩ := hg
  have hle : h.length ≤ h'.length := by omega
  have hpe0 := hpl
  have hwl := ok.walks.2.2
  rw [M.inr_iff] at hwl
  rw [M.rest_zero] at hd
  have hgo := ok.gone
  have hgA := fun (n : Int) (h1 : 0 ≤ n) (h2 : n.toNat < t.gone.length) => mv_gone1N hpl h1 h2 hh hl0
  have hl : ((0 : Int) == (t.houses.length : Int)) = false := by simp; omega
  rcases hpe0 with hpe | ⟨q, hpe⟩
  all_goals (
  apply RetS_finH (fn := Try.f83) Try.func83 rfl (by simp [V.all]) gc' hle
  apply T_seq
  apply T_r F
  · (simp only [go_sem, Try.ntmps83, cX_eq, hpe, hl, Int.ofNat_zero, Int.natCast_zero, Int.cast_ofNat_Int, gi, gj, gk]) <;> exact rfl
  apply K_seq
  apply T_seq
  apply T_seq
  apply T_r F
  · (simp only [go_sem, Try.ntmps83, cX_eq, hpe, hl, Int.ofNat_zero, Int.natCast_zero, Int.cast_ofNat_Int, gi, gj, gk]) <;> exact rfl
  apply K_seq
  apply T_ifF -- h0
  · (simp only [go_sem, Try.ntmps83, cX_eq, hpe, hl, Int.ofNat_zero, Int.natCast_zero, Int.cast_ofNat_Int, gi, gj, gk]) <;> exact rfl
  apply T_skip
  apply K_seq
  apply T_seq
  apply T_seq
  apply T_r F
  · (simp only [go_sem, Try.ntmps83, cX_eq, hpe, hl, Int.ofNat_zero, Int.natCast_zero, Int.cast_ofNat_Int, gi, gj, gk]) <;> exact rfl
  apply K_seq
  apply T_block
  apply T_lp (α := Nat × List AObj) [true, true, false, true, false, false, false, false, false, false, false, false, false, false, false, false, false, false, false, false, false, false, false, false, false, false, false, false, false, false, false, true, true, false, false, false, false, false, false, false, false, false, false, false, false, false, false, false, false, false] (fun ⟨n, hk⟩ => (⟨[.nil, .ptr i 0, .undef, .ptr k 0, .undef, .undef, .undef, .undef, .undef, .undef, .undef, .undef, .undef, .undef, .undef, .undef, .undef, .undef, .undef, .undef, .undef, .undef, .undef, .undef, .undef, .undef, .undef, .undef, .undef, .undef, .undef, .int .i64 (t.walk.length : Int), .int .i64 (n : Int), .undef, .undef, .undef, .undef, .undef, .undef, .undef, .undef, .undef, .undef, .undef, .undef, .undef, .undef, .undef, .undef, .undef], hk⟩ : St)) (fun ⟨n, hk⟩ => n ≤ t.walk.length ∧ FeedP t pl y i j k N (M.rest t m [] n) hk b h') (fun ⟨n, hk⟩ => t.walk.length - n) ((0, h))
  · (simp only [go_sem, Try.ntmps83, cX_eq, hpe, hl, Int.ofNat_zero, Int.natCast_zero, Int.cast_ofNat_Int, gi, gj, gk]) <;> exact rfl
  · exact ⟨Nat.zero_le _, hd⟩
  · rintro ⟨n, hk⟩ ⟨hn, hf⟩
    have hgk := hf.good.1
    obtain ⟨hc2, hl2, gi2, gj2, gk2⟩ := hgk
    apply T_seq
    apply T_r F
    · (simp only [go_sem, Try.ntmps83, cX_eq, hpe, hl, Int.ofNat_zero, Int.natCast_zero, Int.cast_ofNat_Int, gi, gj, gk, gi2, gj2, gk2]) <;> exact rfl
    apply K_seq
    apply T_seq
    apply T_if
    · (simp only [go_sem, Try.ntmps83, cX_eq, hpe, hl, Int.ofNat_zero, Int.natCast_zero, Int.cast_ofNat_Int, gi, gj, gk, gi2, gj2, gk2]) <;> exact rfl
    · intro bh1t
      have h1t := bh1t
      try simp only [CS] at h1t
      try simp only [BS] at bh1t
      try exact absurd bh1t (by decide)
      all_goals (
  have hb : n < 9223372036854775807 := by omega
  rw [M.rest_step h1t] at hf
  apply T_skip
  apply K_seq
  apply T_seq
  apply T_block
  apply T_seq
  apply T_r F
  · (simp only [go_sem, Try.ntmps83, cX_eq, hpe, hl, Int.ofNat_zero, Int.natCast_zero, Int.cast_ofNat_Int, gi, gj, gk, gi2, gj2, gk2, bh1t, h1t, hb]) <;> exact rfl
  apply K_seq
  apply T_seq
  apply T_wL F [0, 1, 2, 3, 4, 5, 6, 7, 8] rfl
  apply W_pre [0, 1, 2] [3, 4, 5, 6, 7, 8]
  · (simp only [go_sem, Try.ntmps83, cX_eq, hpe, hl, Int.ofNat_zero, Int.natCast_zero, Int.cast_ofNat_Int, gi, gj, gk, gi2, gj2, gk2, bh1t, h1t, hb]) <;> exact rfl
  apply W_call -- call 0 of function 84
  · (simp only [go_sem, Try.ntmps83, cX_eq, hpe, hl, Int.ofNat_zero, Int.natCast_zero, Int.cast_ofNat_Int, gi, gj, gk, gi2, gj2, gk2, bh1t, h1t, hb]) <;> exact rfl
  · (simp only [go_sem, Try.ntmps83, cX_eq, hpe, hl, Int.ofNat_zero, Int.natCast_zero, Int.cast_ofNat_Int, gi, gj, gk, gi2, gj2, gk2, bh1t, h1t, hb]) <;> exact rfl
  · exact rfl
  · (simp only [go_sem, Try.ntmps83, cX_eq, hpe, hl, Int.ofNat_zero, Int.natCast_zero, Int.cast_ofNat_Int, gi, gj, gk, gi2, gj2, gk2, bh1t, h1t, hb]) <;> exact rfl
  · (simp only [go_sem, Try.ntmps83, cX_eq, hpe, hl, Int.ofNat_zero, Int.natCast_zero, Int.cast_ofNat_Int, gi, gj, gk, gi2, gj2, gk2, bh1t, h1t, hb]) <;> exact rfl
  · exact ⟨_, Try.func84, rfl, rfl⟩
  · (simp only [go_sem, Try.ntmps83, cX_eq, hpe, hl, Int.ofNat_zero, Int.natCast_zero, Int.cast_ofNat_Int, gi, gj, gk, gi2, gj2, gk2, bh1t, h1t, hb]) <;> exact rfl
  · (simp only [go_sem, Try.ntmps83, cX_eq, hpe, hl, Int.ofNat_zero, Int.natCast_zero, Int.cast_ofNat_Int, gi, gj, gk, gi2, gj2, gk2, bh1t, h1t, hb]) <;> exact rfl
  · rw [hpe] at hgA
    exact hgA _ (by omega) (by omega)
  apply W_run
  · (simp only [go_sem, Try.ntmps83, cX_eq, hpe, hl, Int.ofNat_zero, Int.natCast_zero, Int.cast_ofNat_Int, gi, gj, gk, gi2, gj2, gk2, bh1t, h1t, hb]) <;> exact rfl
  apply W_nil
  apply K_seq
  apply T_seq
  apply T_wL F [0, 1, 2, 3, 4, 5, 6] rfl
  apply W_pre [0, 1] [2, 3, 4, 5, 6]
  · (simp only [go_sem, Try.ntmps83, cX_eq, hpe, hl, Int.ofNat_zero, Int.natCast_zero, Int.cast_ofNat_Int, gi, gj, gk, gi2, gj2, gk2, bh1t, h1t, hb]) <;> exact rfl
  apply W_guard
  · (simp only [go_sem, Try.ntmps83, cX_eq, hpe, hl, Int.ofNat_zero, Int.natCast_zero, Int.cast_ofNat_Int, gi, gj, gk, gi2, gj2, gk2, bh1t, h1t, hb]) <;> exact rfl
  · (simp only [go_sem, Try.ntmps83, cX_eq, hpe, hl, Int.ofNat_zero, Int.natCast_zero, Int.cast_ofNat_Int, gi, gj, gk, gi2, gj2, gk2, bh1t, h1t, hb]) <;> exact rfl
  · intro bg0t
    have g0t := bg0t
    try simp only [CS] at g0t
    try simp only [BS] at bg0t
    try exact absurd bg0t (by decide)
    all_goals (
  rw [if_pos bg0t] at hf
  obtain ⟨b1, h1, hf1, hf2, hf3⟩ := hf.split
  have hnx : M.nx t [] n = .sl 1 (rI ([] ++ [(n : Int)])) := if_pos bg0t
  apply W_pre [2, 3] [4, 5, 6]
  · (simp only [go_sem, Try.ntmps83, cX_eq, hpe, hl, Int.ofNat_zero, Int.natCast_zero, Int.cast_ofNat_Int, gi, gj, gk, gi2, gj2, gk2, bh1t, h1t, hb, bg0t, hnx]) <;> exact rfl
  apply W_callS -- call 1
  · (simp only [go_sem, Try.ntmps83, cX_eq, hpe, hl, Int.ofNat_zero, Int.natCast_zero, Int.cast_ofNat_Int, gi, gj, gk, gi2, gj2, gk2, bh1t, h1t, hb, bg0t, hnx]) <;> exact rfl
  · (simp only [go_sem, Try.ntmps83, cX_eq, hpe, hl, Int.ofNat_zero, Int.natCast_zero, Int.cast_ofNat_Int, gi, gj, gk, gi2, gj2, gk2, bh1t, h1t, hb, bg0t, hnx]) <;> exact rfl
  · exact rfl
  · (simp only [go_sem, Try.ntmps83, cX_eq, hpe, hl, Int.ofNat_zero, Int.natCast_zero, Int.cast_ofNat_Int, gi, gj, gk, gi2, gj2, gk2, bh1t, h1t, hb, bg0t, hnx]) <;> exact rfl
  · (simp only [go_sem, Try.ntmps83, cX_eq, hpe, hl, Int.ofNat_zero, Int.natCast_zero, Int.cast_ofNat_Int, gi, gj, gk, gi2, gj2, gk2, bh1t, h1t, hb, bg0t, hnx]) <;> exact rfl
  · exact ⟨_, Try.func83, rfl, rfl⟩
  · exact ih n _ _ _ h1t bg0t hf1
  apply W_run
  · (simp only [go_sem, Try.ntmps83, cX_eq, hpe, hl, Int.ofNat_zero, Int.natCast_zero, Int.cast_ofNat_Int, gi, gj, gk, gi2, gj2, gk2, bh1t, h1t, hb, bg0t, hnx]) <;> exact rfl
  apply W_nil
  apply K_seq
  apply T_if
  · (simp only [go_sem, Try.ntmps83, cX_eq, hpe, hl, Int.ofNat_zero, Int.natCast_zero, Int.cast_ofNat_Int, gi, gj, gk, gi2, gj2, gk2, bh1t, h1t, hb, bg0t, hnx]) <;> exact rfl
  · intro bh2t
    have h2t := bh2t
    try simp only [CS] at h2t
    try simp only [BS] at bh2t
    try exact absurd bh2t (by decide)
    all_goals (
  obtain ⟨rfl, rfl⟩ := hf3 bh2t
  apply T_seq
  apply T_r F
  · (simp only [go_sem, Try.ntmps83, cX_eq, hpe, hl, Int.ofNat_zero, Int.natCast_zero, Int.cast_ofNat_Int, gi, gj, gk, gi2, gj2, gk2, bh1t, h1t, hb, bg0t, hnx, bh2t]) <;> exact rfl
  apply K_seq
  apply T_ret
  apply K_blkR
  apply K_seqR
  apply K_lpR
  apply K_blkR
  apply K_seqR
  apply finS_ret
  · (simp only [go_sem, Try.ntmps83, cX_eq, hpe, hl, Int.ofNat_zero, Int.natCast_zero, Int.cast_ofNat_Int, gi, gj, gk, gi2, gj2, gk2, bh1t, h1t, hb, bg0t, hnx, bh2t, Try.f83]) <;> exact rfl
  · simp
  · exact Nat.le_refl _
  -- leaf 0 (ret)
  
  all_goals rfl)
  · intro bh2f
    have h2f := bh2f
    try simp only [CS] at h2f
    try simp only [BS] at bh2f
    try exact absurd bh2f (by decide)
    all_goals (
  have hf4 := hf2 bh2f
  apply T_skip
  apply K_blk
  apply K_seq
  apply T_r F
  · (simp only [go_sem, Try.ntmps83, cX_eq, hpe, hl, Int.ofNat_zero, Int.natCast_zero, Int.cast_ofNat_Int, gi, gj, gk, gi2, gj2, gk2, bh1t, h1t, hb, bg0t, hnx, bh2f]) <;> exact rfl
  refine K_lp ((n + 1, h1)) ?_ ?_
  · (simp only [go_sem, Try.ntmps83, cX_eq, hpe, hl, Int.ofNat_zero, Int.natCast_zero, Int.cast_ofNat_Int, gi, gj, gk, gi2, gj2, gk2, bh1t, h1t, hb, bg0t, hnx, bh2f]) <;> exact rfl
  -- leaf 1 (loop0)
  exact ⟨⟨by omega, hf4⟩, by simp only; omega⟩))
  · intro bg0f
    have g0f := bg0f
    try simp only [CS] at g0f
    try simp only [BS] at bg0f
    try exact absurd bg0f (by decide)
    all_goals (
  rw [if_neg (by simp [bg0f]), List.nil_append] at hf
  apply W_run
  · (simp only [go_sem, Try.ntmps83, cX_eq, hpe, hl, Int.ofNat_zero, Int.natCast_zero, Int.cast_ofNat_Int, gi, gj, gk, gi2, gj2, gk2, bh1t, h1t, hb, bg0f]) <;> exact rfl
  apply W_nil
  apply K_seq
  apply T_if
  · (simp only [go_sem, Try.ntmps83, cX_eq, hpe, hl, Int.ofNat_zero, Int.natCast_zero, Int.cast_ofNat_Int, gi, gj, gk, gi2, gj2, gk2, bh1t, h1t, hb, bg0f]) <;> exact rfl
  · intro bh3t
    exact absurd bh3t (by simp)
  · intro bh3f
    have h3f := bh3f
    try simp only [CS] at h3f
    try simp only [BS] at bh3f
    try exact absurd bh3f (by decide)
    all_goals (
  apply T_skip
  apply K_blk
  apply K_seq
  apply T_r F
  · (simp only [go_sem, Try.ntmps83, cX_eq, hpe, hl, Int.ofNat_zero, Int.natCast_zero, Int.cast_ofNat_Int, gi, gj, gk, gi2, gj2, gk2, bh1t, h1t, hb, bg0f, bh3f]) <;> exact rfl
  refine K_lp ((n + 1, hk)) ?_ ?_
  · (simp only [go_sem, Try.ntmps83, cX_eq, hpe, hl, Int.ofNat_zero, Int.natCast_zero, Int.cast_ofNat_Int, gi, gj, gk, gi2, gj2, gk2, bh1t, h1t, hb, bg0f, bh3f]) <;> exact rfl
  -- leaf 2 (loop0)
  exact ⟨⟨by omega, hf⟩, by simp only; omega⟩)))
    · intro bh1f
      have h1f := bh1f
      try simp only [CS] at h1f
      try simp only [BS] at bh1f
      try exact absurd bh1f (by decide)
      all_goals (
  rw [M.rest_end (by omega)] at hf
  obtain ⟨rfl, rfl⟩ := hf.end
  apply T_exit
  apply K_seqE
  apply K_lpE
  apply K_blkE
  apply K_seq
  apply T_seq
  apply T_r F
  · (simp only [go_sem, Try.ntmps83, cX_eq, hpe, hl, Int.ofNat_zero, Int.natCast_zero, Int.cast_ofNat_Int, gi, gj, gk, gi2, gj2, gk2, bh1f]) <;> exact rfl
  apply K_seq
  apply T_ret
  apply finS_ret
  · (simp only [go_sem, Try.ntmps83, cX_eq, hpe, hl, Int.ofNat_zero, Int.natCast_zero, Int.cast_ofNat_Int, gi, gj, gk, gi2, gj2, gk2, bh1f, Try.f83]) <;> exact rfl
  · simp
  · exact Nat.le_refl _
  -- leaf 3 (ret)
  
  all_goals rfl))

theorem mv_plans0 (t : Town) (pl : V) (hpl : PlV pl) (y : Nat) (h h1 : List AObj) (b : Bool) (hc : Closed h1) (hle : h.length ≤ h1.length)
  (hs : RetS Try.prog 83 [.nil, .ptr h.length 0, .ptr (h.length + 1) 0, .ptr (h.length + 2) 0] (h ++ [.box 69 (cX t pl), .box 99 [.yield y], .box 99 [.fn 83 [] [.ptr h.length 0, .ptr (h.length + 1) 0, .ptr (h.length + 2) 0]]]) (.bool b) (h1 ++ [.box 69 (cX t pl), .box 99 [.yield y], .box 99 [.fn 83 [] [.ptr h.length 0, .ptr (h.length + 1) 0, .ptr (h.length + 2) 0]]])) : RetS Try.prog 51 [.agg (cX t pl), .yield y] h (.tup []) (h1) := by
  rcases hpl with hpe | ⟨q, hpe⟩
  all_goals (
  apply RetS_finH (fn := Try.f51) Try.func51 rfl (by simp [V.all, V.allL]) hc hle
  apply T_seq
  apply T_r F
  · (simp only [go_sem, Try.ntmps51, cX_eq, hpe, heap_new, heap_new1, heap_new2, heap_len1, heap_len2, heap_app, heap_set2, List.singleton_append]) <;> exact rfl
  apply K_seq
  apply T_seq
  apply T_r F
  · (simp only [go_sem, Try.ntmps51, cX_eq, hpe, heap_new, heap_new1, heap_new2, heap_len1, heap_len2, heap_app, heap_set2, List.singleton_append]) <;> exact rfl
  apply K_seq
  apply T_seq
  apply T_r F
  · (simp only [go_sem, Try.ntmps51, cX_eq, hpe, heap_new, heap_new1, heap_new2, heap_len1, heap_len2, heap_app, heap_set2, List.singleton_append]) <;> exact rfl
  apply K_seq
  apply T_wL F [0, 1] rfl
  apply W_pre [0] [1]
  · (simp only [go_sem, Try.ntmps51, cX_eq, hpe, heap_new, heap_new1, heap_new2, heap_len1, heap_len2, heap_app, heap_set2, List.singleton_append]) <;> exact rfl
  apply W_callS -- call 0
  · (simp only [go_sem, Try.ntmps51, cX_eq, hpe, heap_new, heap_new1, heap_new2, heap_len1, heap_len2, heap_app, heap_set2, List.singleton_append]) <;> exact rfl
  · (simp only [go_sem, Try.ntmps51, cX_eq, hpe, heap_new, heap_new1, heap_new2, heap_len1, heap_len2, heap_app, heap_set2, List.singleton_append]) <;> exact rfl
  · exact rfl
  · (simp only [go_sem, Try.ntmps51, cX_eq, hpe, heap_new, heap_new1, heap_new2, heap_len1, heap_len2, heap_app, heap_set2, List.singleton_append]) <;> exact rfl
  · (simp only [go_sem, Try.ntmps51, cX_eq, hpe, heap_new, heap_new1, heap_new2, heap_len1, heap_len2, heap_app, heap_set2, List.singleton_append]) <;> exact rfl
  · exact ⟨_, Try.func83, rfl, rfl⟩
  · rw [hpe] at hs
    exact hs
  apply W_run
  · (simp only [go_sem, Try.ntmps51, cX_eq, hpe, heap_new, heap_new1, heap_new2, heap_len1, heap_len2, heap_app, heap_set2, List.singleton_append]) <;> exact rfl
  apply W_nil
  apply finS_normal
  · (simp only [go_sem, Try.ntmps51, cX_eq, hpe, heap_new, heap_new1, heap_new2, heap_len1, heap_len2, heap_app, heap_set2, List.singleton_append, Try.f51]) <;> exact rfl
  · simp
  · simp
  -- leaf 0 (ret)
  
  all_goals rfl)


theorem mv_search {t : Town} {pl : V} (hpl : PlV pl) (ok : M.Ok t) (hh : t.houses.length ≤ 1000) (hsl : t.schools.length ≤ 9223372036854775807) (y i j k N : Nat) : ∀ (m : Nat) (p : List Int), p ≠ [] → p.length + m = t.houses.length → (∀ x ∈ p, M.lot t x = true) → ∀ (h h' : List AObj) (b : Bool),
    FeedP t pl y i j k N (M.dfs t m p) h b h' → RetS Try.prog 83 [.sl 1 (rI p), .ptr i 0, .ptr j 0, .ptr k 0] h (.bool b) h'
  | 0, p, hp0, hl, hx, h, h', b, hf => by
    have hp : M.plan t p = true := by
      rw [M.plan, Bool.and_eq_true, List.all_eq_true, beq_iff_eq]; exact ⟨hx, by omega⟩
    have hg := hf.good
    unfold M.dfs at hf
    by_cases al : (M.fault t p).1 = 1
    · rw [if_pos (by simp [M.allowed, al])] at hf
      exact mv_searchA t pl hpl ok hh hsl y i j k N h h' b p hp al hg.1 hg.2 hf.one
    · rw [if_neg (by simp [M.allowed, al])] at hf
      exact mv_searchB t pl hpl ok hh hsl y i j k N h h' b p hp (by simp [al]) hg.1 hg.2 hf.end.1 hf.end.2
  | m + 1, p, hp0, hl, hx, h, h', b, hf =>
    mv_searchC t pl hpl ok hh hsl y i j k N h h' b p hp0 (by omega) m hf (fun n h1 h2 b1 hn _ hf1 =>
      mv_search hpl ok hh hsl y i j k N m (p ++ [(n : Int)]) (by simp) (by simp; omega) (fun x hx' => by
        rcases List.mem_append.1 hx' with h' | h'
        · exact hx x h'
        · simp only [List.mem_singleton] at h'; subst h'; rw [M.lot_iff]; omega) h1 h2 b1 hf1)
def extP (t : Town) (pl : V) (y n : Nat) : List AObj := [.box 69 (cX t pl), .box 99 [.yield y], .box 99 [.fn 83 [] [.ptr n 0, .ptr (n + 1) 0, .ptr (n + 2) 0]]]
/-- All plans that are allowed are handed to the loop's body, one after the other, while it goes on. -/
theorem mv_plans {t : Town} {pl : V} (hpl : PlV pl) (ok : M.Ok t) (hh : t.houses.length ≤ 1000) (hsl : t.schools.length ≤ 9223372036854775807) {y : Nat} {h h1 : List AObj} {b : Bool} (hc : Closed h1) (hl : h.length = h1.length)
    (hf : FeedP t pl y h.length (h.length + 1) (h.length + 2) (h.length + 3) (M.plans t) (h ++ extP t pl y h.length) b (h1 ++ extP t pl y h.length)) : RetS Try.prog 51 [.agg (cX t pl), .yield y] h (.tup []) h1 := by
  have hn := (M.inr_iff.1 ok.houses.2).1
  refine mv_plans0 t pl hpl y h h1 b hc (by omega) ?_
  obtain ⟨m, hm⟩ : ∃ m, t.houses.length = m + 1 := ⟨t.houses.length - 1, by omega⟩
  unfold M.plans at hf
  rw [hm] at hf
  exact mv_searchD t pl hpl ok hh hsl y h.length (h.length + 1) (h.length + 2) (h.length + 3) _ _ b (by omega) m hf (fun n h1 h2 b1 hn _ hf1 =>
    mv_search hpl ok hh hsl y _ _ _ _ m ([] ++ [(n : Int)]) (by simp) (by simp; omega) (fun x hx' => by
        simp only [List.nil_append, List.mem_singleton] at hx'; subst hx'; rw [M.lot_iff]; omega) h1 h2 b1 hf1)
end Go.Ab
namespace Go.Ab
open Go Go.RowKit Go.Proofs
set_option linter.unusedVariables false
/-! ### bounds of ranks -/
theorem nodup_le : ∀ (n : Nat) (l : List Int), l.Nodup → (∀ x ∈ l, 0 ≤ x ∧ x < n) → l.length ≤ n
  | 0, l, _, hx => by
    cases l with
    | nil => simp
    | cons a l => have := hx a (by simp); omega
  | n + 1, l, hd, hx => by
    by_cases hm : (n : Int) ∈ l
    · have h1 := nodup_le n (l.erase (n : Int)) (hd.erase _) (fun x hx' => by
        rw [hd.mem_erase_iff] at hx'
        have := hx x hx'.2
        have h3 := hx'.1
        omega)
      rw [List.length_erase_of_mem hm] at h1
      omega
    · have h1 := nodup_le n l hd (fun x hx' => by
        have := hx x hx'
        have h3 : x ≠ n := fun e => hm (e ▸ hx')
        omega)
      omega
theorem M.nodup_of {l : List Int} (h : ∀ k, k < l.length → (l.take k).contains (M.at' l k) = false) : l.Nodup := by
  rw [List.nodup_iff_pairwise_ne, List.pairwise_iff_getElem]
  intro i j hi hj hij e
  have h1 := h j hj
  rw [M.at_get hj] at h1
  rw [← Bool.not_eq_true, List.contains_iff_mem] at h1
  exact h1 (by rw [← e]; exact List.mem_take_iff_getElem.2 ⟨i, by omega, rfl⟩)
theorem M.wishes_le {t : Town} (ok : M.Ok t) {i : Nat} (hi : i < t.houses.length) : (t.houses[i]).wishes.length ≤ t.walk.length := by
  have h := (ok.houses.1 i hi).2.2
  rw [M.hs_get hi] at h
  refine nodup_le _ _ (M.nodup_of fun k hk => (h k hk).2) fun x hx => ?_
  obtain ⟨k, hk, rfl⟩ := List.mem_iff_getElem.1 hx
  have := (h k hk).1
  rw [M.at_get hk, M.lot_iff] at this
  exact this
theorem M.walk_le {t : Town} (ok : M.Ok t) : 1 ≤ t.walk.length ∧ t.walk.length ≤ 7 := by
  have := M.inr_iff.1 ok.walks.2.2; omega
theorem M.houses_le {t : Town} (ok : M.Ok t) : 1 ≤ t.houses.length ∧ t.houses.length ≤ 6 := by
  have := M.inr_iff.1 ok.houses.2; omega
theorem M.rank_bound {t : Town} (ok : M.Ok t) (h : Nat) (n : Int) : -1 ≤ M.rank t h n ∧ M.rank t h n ≤ t.walk.length := by
  unfold M.rank
  cases hh : t.houses[h]? with
  | none => simp
  | some x =>
    obtain ⟨hi, rfl⟩ := List.getElem?_eq_some_iff.1 hh
    have hw := M.wishes_le ok hi
    simp only
    cases hp : M.pos t.houses[h].wishes n with
    | none => simp only; split <;> omega
    | some k =>
      unfold M.pos at hp
      rw [List.findIdx?_eq_some_iff_getElem] at hp
      obtain ⟨hk, _⟩ := hp
      simp only; omega
theorem M.ranks_mem {t : Town} (ok : M.Ok t) {p : List Int} {x : Int} (h : x ∈ M.ranks t p) : -1 ≤ x ∧ x ≤ 7 := by
  unfold M.ranks at h
  obtain ⟨i, _, rfl⟩ := List.mem_map.1 h
  have := M.rank_bound ok i (M.at' p i)
  have := M.walk_le ok
  omega
theorem M.ranks_wide {t : Town} (ok : M.Ok t) {p : List Int} : ∀ x ∈ M.ranks t p, -1000 ≤ x ∧ x ≤ 1000 := fun x h => by
  have := M.ranks_mem ok h; omega
theorem M.ranks_nonneg {t : Town} {p : List Int} (ha : M.allowed t p = true) : ∀ x ∈ M.ranks t p, 0 ≤ x := fun x h => by
  unfold M.ranks at h
  obtain ⟨i, hi, rfl⟩ := List.mem_map.1 h
  have := ((M.allowed_iff.1 ha).1 i (List.mem_range.1 hi)).2.2.1
  unfold M.unwished at this
  simp at this; exact this
theorem M.most_nonneg (l : List Int) : 0 ≤ M.most l := by
  have key : ∀ (l : List Int) (n : Int), 0 ≤ n → 0 ≤ l.foldl max n := by
    intro l
    induction l with
    | nil => intro n h; exact h
    | cons x l ih => intro n h; exact ih _ (by omega)
  exact key l 0 (by omega)
theorem M.most_one {l : List Int} (h : 0 < l.length) (hx : 0 ≤ l[0]) : M.most (l.take 1) = l[0] := by
  rw [show (1 : Nat) = 0 + 1 from rfl, M.most_take h]
  simp [M.most]; omega
/-! ### the least of the plans: the heap while plans come -/
def oV : Option (List Int × Int × Int) → V
  | some (q, _) => .sl 1 (rI q)
  | none => .nil
def oM : Option (List Int × Int × Int) → Int × Int
  | some (_, m) => m
  | none => (0, 0)
theorem oV_all (o : Option (List Int × Int × Int)) (p : Nat → Bool) : (oV o).all p = true := by
  cases o with
  | none => simp [oV, V.all]
  | some x => simp [oV, V.all, rI_all]
/-- The slots when the loop begins. -/
noncomputable def tmL (t : Town) (g : FuncId) : List V := [.fn 51 [.agg (cX t .nil)] [], .fn g [] [.ptr 0 0], .undef, .ptr 1 0, .nil, .ptr 2 0, .bool false, .ptr 3 0, .ptr 4 0, .ptr 5 0, .undef, .undef, .fn 51 [.agg (cX t .nil)] []] ++ List.replicate 32 .undef
/-- The heap, but for the search's own boxes. -/
noncomputable def hpL (t : Town) (g : FuncId) (o : V) (a b : Int) (f : Bool) : List AObj := [.box 28 (cT t), .box 78 [.fn g [] [.ptr 0 0]], .box 75 [.int .i64 0, .int .i64 0], .box 23 [o], .box 75 [.int .i64 a, .int .i64 b], .box 4 [.bool f], .loop .ready none (tmL t g) #[13] (asOf Try.f55) (bdOf Try.f55)]
theorem cloL {t : Town} {g : FuncId} {o : V} (a b : Int) (f : Bool) (ho : ∀ q, o.all q = true) : Clo 10 (hpL t g o a b f ++ extP t .nil 6 7) := by
  simp [Clo, hpL, extP, tmL, cX_eq, cT_eq, AObj.all, V.all, V.allL, rI_all, rB_all, rL_all, rH_all, rP_all, ho]
theorem sl_all (p : List Int) (q : Nat → Bool) : (V.sl 1 (rI p)).all q = true := by simp [V.all, rI_all]
end Go.Ab
namespace Go.Ab
open Go Go.RowKit Go.Proofs Fac
set_option linter.unusedVariables false
set_option linter.unusedSimpArgs false
set_option maxRecDepth 4000
set_option maxHeartbeats 1000000





theorem sl_max (l : List Int) (h0 : 0 < l.length) (hx : ∀ x ∈ l, 0 ≤ x) : Ret Try.prog 85 [.sl 1 (rI l)] (.int .i64 (M.most l)) := by
  refine Ret.of_fits fun hfits => ?_
  simp only [V.fits, V.fitsL, V.fitsR, rI_length] at hfits
  have hl := hfits.1.1
  have hone := M.most_one h0 (hx _ (List.getElem_mem h0))
  have hlt : ¬ (l.length : Int) < 1 := by omega
  apply Ret_fin (fn := Try.f85) Try.func85 rfl
  apply T_seq
  apply T_r F
  · (simp only [go_sem, Try.ntmps85, hone, h0, rI_get h0, hlt, Int.le_refl, Int.toNat_zero, Int.ofNat_one, Int.natCast_one]) <;> exact rfl
  apply K_seq
  apply T_seq
  apply T_seq
  apply T_r F
  · (simp only [go_sem, Try.ntmps85, hone, h0, rI_get h0, hlt, Int.le_refl, Int.toNat_zero, Int.ofNat_one, Int.natCast_one]) <;> exact rfl
  apply K_seq
  apply T_ifF -- h0
  · (simp only [go_sem, Try.ntmps85, hone, h0, rI_get h0, hlt, Int.le_refl, Int.toNat_zero, Int.ofNat_one, Int.natCast_one]) <;> exact rfl
  apply T_skip
  apply K_seq
  apply T_seq
  apply T_r F
  · (simp only [go_sem, Try.ntmps85, hone, h0, rI_get h0, hlt, Int.le_refl, Int.toNat_zero, Int.ofNat_one, Int.natCast_one]) <;> exact rfl
  apply K_seq
  apply T_seq
  apply T_seq
  apply T_r F
  · (simp only [go_sem, Try.ntmps85, hone, h0, rI_get h0, hlt, Int.le_refl, Int.toNat_zero, Int.ofNat_one, Int.natCast_one]) <;> exact rfl
  apply K_seq
  apply T_block
  apply T_lp (α := Nat) [true, false, false, true, true, false, false, false, false, false, false, false, false, false, false, false, false, false, false, false, false, false, false, false, false] (fun k => (⟨[.sl 1 (rI l), .undef, .undef, .int .i64 (M.most (l.take k)), .int .i64 (k : Int), .undef, .undef, .undef, .undef, .undef, .undef, .undef, .undef, .undef, .undef, .undef, .undef, .undef, .undef, .undef, .undef, .undef, .undef, .undef, .undef], []⟩ : St)) (fun k => 1 ≤ k ∧ k ≤ l.length) (fun k => l.length - k) (1)
  · (simp only [go_sem, Try.ntmps85, hone, h0, rI_get h0, hlt, Int.le_refl, Int.toNat_zero, Int.ofNat_one, Int.natCast_one]) <;> exact rfl
  · exact ⟨Nat.le_refl _, h0⟩
  · rintro k ⟨hk1, hk⟩
    apply T_seq
    apply T_seq
    apply T_r F
    · (simp only [go_sem, Try.ntmps85, hone, h0, rI_get h0, hlt, Int.le_refl, Int.toNat_zero, Int.ofNat_one, Int.natCast_one]) <;> exact rfl
    apply K_seq
    apply T_if
    · (simp only [go_sem, Try.ntmps85, hone, h0, rI_get h0, hlt, Int.le_refl, Int.toNat_zero, Int.ofNat_one, Int.natCast_one]) <;> exact rfl
    · intro bh1t
      have h1t := bh1t
      try simp only [CS] at h1t
      try simp only [BS] at bh1t
      try exact absurd bh1t (by decide)
      all_goals (
  have hb : k < 9223372036854775807 := by omega
  have hm : (if l[k] > M.most (l.take k) then l[k] else M.most (l.take k)) = M.most (l.take (k + 1)) := by
    rw [M.most_take h1t]
    grind
  simp only [gt_iff_lt] at hm
  apply T_skip
  apply K_seq
  apply T_seq
  apply T_block
  apply T_r F
  · (simp only [go_sem, Try.ntmps85, hone, h0, rI_get h0, hlt, Int.le_refl, Int.toNat_zero, Int.ofNat_one, Int.natCast_one, bh1t, h1t, rI_get h1t, hb, hm]) <;> exact rfl
  apply K_blk
  apply K_seq
  apply T_r F
  · (simp only [go_sem, Try.ntmps85, hone, h0, rI_get h0, hlt, Int.le_refl, Int.toNat_zero, Int.ofNat_one, Int.natCast_one, bh1t, h1t, rI_get h1t, hb, hm]) <;> exact rfl
  refine K_lp (k + 1) ?_ ?_
  · (simp only [go_sem, Try.ntmps85, hone, h0, rI_get h0, hlt, Int.le_refl, Int.toNat_zero, Int.ofNat_one, Int.natCast_one, bh1t, h1t, rI_get h1t, hb, hm]) <;> exact rfl
  -- leaf 0 (loop0)
  omega)
    · intro bh1f
      have h1f := bh1f
      try simp only [CS] at h1f
      try simp only [BS] at bh1f
      try exact absurd bh1f (by decide)
      all_goals (
  apply T_exit
  apply K_seqE
  apply K_lpE
  apply K_blkE
  apply K_seq
  apply T_seq
  apply T_r F
  · (simp only [go_sem, Try.ntmps85, hone, h0, rI_get h0, hlt, Int.le_refl, Int.toNat_zero, Int.ofNat_one, Int.natCast_one, bh1f]) <;> exact rfl
  apply K_seq
  apply T_ret
  apply fin_ret
  · (simp only [go_sem, Try.ntmps85, hone, h0, rI_get h0, hlt, Int.le_refl, Int.toNat_zero, Int.ofNat_one, Int.natCast_one, bh1f, Try.f85]) <;> exact rfl
  -- leaf 1 (ret)
  simp only [go_sem, Try.ntmps85, hone, h0, rI_get h0, hlt, Int.le_refl, Int.toNat_zero, Int.ofNat_one, Int.natCast_one, bh1f, V.bool.injEq, V.int.injEq, true_and]
  rw [List.take_of_length_le (by omega)])

theorem mv_greatest (l : List Int) (h0 : 0 < l.length) (hx : ∀ x ∈ l, 0 ≤ x) : Ret Try.prog 59 [.sl 1 (rI l)] (.int .i64 (M.most l)) := by
  apply Ret_fin (fn := Try.f59) Try.func59 rfl
  apply T_seq
  apply T_r F
  · (simp only [go_sem, Try.ntmps59]) <;> exact rfl
  apply K_seq
  apply T_seq
  apply T_wL F [0, 1, 2] rfl
  apply W_pre [0] [1, 2]
  · (simp only [go_sem, Try.ntmps59]) <;> exact rfl
  apply W_call -- call 0 of function 85
  · (simp only [go_sem, Try.ntmps59]) <;> exact rfl
  · (simp only [go_sem, Try.ntmps59]) <;> exact rfl
  · exact rfl
  · (simp only [go_sem, Try.ntmps59]) <;> exact rfl
  · (simp only [go_sem, Try.ntmps59]) <;> exact rfl
  · exact ⟨_, Try.func85, rfl, rfl⟩
  · (simp only [go_sem, Try.ntmps59]) <;> exact rfl
  · (simp only [go_sem, Try.ntmps59]) <;> exact rfl
  · exact sl_max _ (by assumption) (by assumption)
  apply W_run
  · (simp only [go_sem, Try.ntmps59]) <;> exact rfl
  apply W_nil
  apply K_seq
  apply T_ret
  apply fin_ret
  · (simp only [go_sem, Try.ntmps59, Try.f59]) <;> exact rfl
  -- leaf 0 (ret)
  
  all_goals rfl

theorem mv_best1 (t : Town) (p : List Int) (h : List AObj) (ok : M.Ok t) (hc : Closed h) (hi : h[0]? = some (.box 28 (cT t))) (hp : M.plan t p = true)  : RetS Try.prog 56 [.sl 1 (rI p), .ptr 0 0] h (.agg [.int .i64 (M.sum (M.ranks t p)), .int .i64 0]) h := by
  have hi1 : ∀ l, (h ++ l)[0]? = some (.box 28 (cT t)) := fun l => by rw [List.getElem?_append_left (List.getElem?_eq_some_iff.1 hi).1]; exact hi
  have hl := (M.plan_iff.1 hp).1
  have h6 := M.houses_le ok
  have hrl := M.ranks_length t p
  apply RetS_fin (fn := Try.f56) Try.func56 rfl (by simp [V.all, V.allL]) hc
  apply T_seq
  apply T_r F
  · (simp only [go_sem, Try.ntmps56, cW_eq, hi, hi1, cT_eq, heap_new, heap_set, heap_app, heap_take]) <;> exact rfl
  apply K_seq
  apply T_seq
  apply T_wL F [0, 1, 2, 3, 4, 5, 6] rfl
  apply W_pre [0, 1, 2] [3, 4, 5, 6]
  · (simp only [go_sem, Try.ntmps56, cW_eq, hi, hi1, cT_eq, heap_new, heap_set, heap_app, heap_take]) <;> exact rfl
  apply W_call -- call 0 of function 50
  · (simp only [go_sem, Try.ntmps56, cW_eq, hi, hi1, cT_eq, heap_new, heap_set, heap_app, heap_take]) <;> exact rfl
  · (simp only [go_sem, Try.ntmps56, cW_eq, hi, hi1, cT_eq, heap_new, heap_set, heap_app, heap_take]) <;> exact rfl
  · exact rfl
  · (simp only [go_sem, Try.ntmps56, cW_eq, hi, hi1, cT_eq, heap_new, heap_set, heap_app, heap_take]) <;> exact rfl
  · (simp only [go_sem, Try.ntmps56, cW_eq, hi, hi1, cT_eq, heap_new, heap_set, heap_app, heap_take]) <;> exact rfl
  · exact ⟨_, Try.func50, rfl, rfl⟩
  · (simp only [go_sem, Try.ntmps56, cW_eq, hi, hi1, cT_eq, heap_new, heap_set, heap_app, heap_take]) <;> exact rfl
  · (simp only [go_sem, Try.ntmps56, cW_eq, hi, hi1, cT_eq, heap_new, heap_set, heap_app, heap_take]) <;> exact rfl
  · exact mv_ranks _ _ (by omega) (by omega)
  apply W_call -- call 1 of function 57
  · (simp only [go_sem, Try.ntmps56, cW_eq, hi, hi1, cT_eq, heap_new, heap_set, heap_app, heap_take]) <;> exact rfl
  · (simp only [go_sem, Try.ntmps56, cW_eq, hi, hi1, cT_eq, heap_new, heap_set, heap_app, heap_take]) <;> exact rfl
  · exact rfl
  · (simp only [go_sem, Try.ntmps56, cW_eq, hi, hi1, cT_eq, heap_new, heap_set, heap_app, heap_take]) <;> exact rfl
  · (simp only [go_sem, Try.ntmps56, cW_eq, hi, hi1, cT_eq, heap_new, heap_set, heap_app, heap_take]) <;> exact rfl
  · exact ⟨_, Try.func57, rfl, rfl⟩
  · (simp only [go_sem, Try.ntmps56, cW_eq, hi, hi1, cT_eq, heap_new, heap_set, heap_app, heap_take]) <;> exact rfl
  · (simp only [go_sem, Try.ntmps56, cW_eq, hi, hi1, cT_eq, heap_new, heap_set, heap_app, heap_take]) <;> exact rfl
  · exact mv_sum _ (M.ranks_wide ok) (by omega)
  apply W_run
  · (simp only [go_sem, Try.ntmps56, cW_eq, hi, hi1, cT_eq, heap_new, heap_set, heap_app, heap_take]) <;> exact rfl
  apply W_nil
  apply K_seq
  apply T_ret
  apply finS_ret
  · (simp only [go_sem, Try.ntmps56, cW_eq, hi, hi1, cT_eq, heap_new, heap_set, heap_app, heap_take, Try.f56]) <;> exact rfl
  · simp
  · simp
  -- leaf 0 (ret)
  
  all_goals rfl

theorem mv_fair1 (t : Town) (p : List Int) (h : List AObj) (ok : M.Ok t) (hc : Closed h) (hi : h[0]? = some (.box 28 (cT t))) (hp : M.plan t p = true) (ha : M.allowed t p = true) : RetS Try.prog 58 [.sl 1 (rI p), .ptr 0 0] h (.agg [.int .i64 (M.most (M.ranks t p)), .int .i64 (M.sum (M.ranks t p))]) h := by
  have hi1 : ∀ l, (h ++ l)[0]? = some (.box 28 (cT t)) := fun l => by rw [List.getElem?_append_left (List.getElem?_eq_some_iff.1 hi).1]; exact hi
  have hl := (M.plan_iff.1 hp).1
  have h6 := M.houses_le ok
  have hrl := M.ranks_length t p
  apply RetS_fin (fn := Try.f58) Try.func58 rfl (by simp [V.all, V.allL]) hc
  apply T_seq
  apply T_r F
  · (simp only [go_sem, Try.ntmps58, cW_eq, hi, hi1, cT_eq, heap_new, heap_set, heap_app, heap_take]) <;> exact rfl
  apply K_seq
  apply T_seq
  apply T_wL F [0, 1, 2, 3, 4] rfl
  apply W_pre [0, 1, 2] [3, 4]
  · (simp only [go_sem, Try.ntmps58, cW_eq, hi, hi1, cT_eq, heap_new, heap_set, heap_app, heap_take]) <;> exact rfl
  apply W_call -- call 0 of function 50
  · (simp only [go_sem, Try.ntmps58, cW_eq, hi, hi1, cT_eq, heap_new, heap_set, heap_app, heap_take]) <;> exact rfl
  · (simp only [go_sem, Try.ntmps58, cW_eq, hi, hi1, cT_eq, heap_new, heap_set, heap_app, heap_take]) <;> exact rfl
  · exact rfl
  · (simp only [go_sem, Try.ntmps58, cW_eq, hi, hi1, cT_eq, heap_new, heap_set, heap_app, heap_take]) <;> exact rfl
  · (simp only [go_sem, Try.ntmps58, cW_eq, hi, hi1, cT_eq, heap_new, heap_set, heap_app, heap_take]) <;> exact rfl
  · exact ⟨_, Try.func50, rfl, rfl⟩
  · (simp only [go_sem, Try.ntmps58, cW_eq, hi, hi1, cT_eq, heap_new, heap_set, heap_app, heap_take]) <;> exact rfl
  · (simp only [go_sem, Try.ntmps58, cW_eq, hi, hi1, cT_eq, heap_new, heap_set, heap_app, heap_take]) <;> exact rfl
  · exact mv_ranks _ _ (by omega) (by omega)
  apply W_run
  · (simp only [go_sem, Try.ntmps58, cW_eq, hi, hi1, cT_eq, heap_new, heap_set, heap_app, heap_take]) <;> exact rfl
  apply W_nil
  apply K_seq
  apply T_seq
  apply T_wL F [0, 1, 2, 3, 4, 5] rfl
  apply W_pre [0] [1, 2, 3, 4, 5]
  · (simp only [go_sem, Try.ntmps58, cW_eq, hi, hi1, cT_eq, heap_new, heap_set, heap_app, heap_take]) <;> exact rfl
  apply W_call -- call 1 of function 59
  · (simp only [go_sem, Try.ntmps58, cW_eq, hi, hi1, cT_eq, heap_new, heap_set, heap_app, heap_take]) <;> exact rfl
  · (simp only [go_sem, Try.ntmps58, cW_eq, hi, hi1, cT_eq, heap_new, heap_set, heap_app, heap_take]) <;> exact rfl
  · exact rfl
  · (simp only [go_sem, Try.ntmps58, cW_eq, hi, hi1, cT_eq, heap_new, heap_set, heap_app, heap_take]) <;> exact rfl
  · (simp only [go_sem, Try.ntmps58, cW_eq, hi, hi1, cT_eq, heap_new, heap_set, heap_app, heap_take]) <;> exact rfl
  · exact ⟨_, Try.func59, rfl, rfl⟩
  · (simp only [go_sem, Try.ntmps58, cW_eq, hi, hi1, cT_eq, heap_new, heap_set, heap_app, heap_take]) <;> exact rfl
  · (simp only [go_sem, Try.ntmps58, cW_eq, hi, hi1, cT_eq, heap_new, heap_set, heap_app, heap_take]) <;> exact rfl
  · exact mv_greatest _ (by omega) (M.ranks_nonneg ha)
  apply W_pre [2] [3, 4, 5]
  · (simp only [go_sem, Try.ntmps58, cW_eq, hi, hi1, cT_eq, heap_new, heap_set, heap_app, heap_take]) <;> exact rfl
  apply W_call -- call 2 of function 57
  · (simp only [go_sem, Try.ntmps58, cW_eq, hi, hi1, cT_eq, heap_new, heap_set, heap_app, heap_take]) <;> exact rfl
  · (simp only [go_sem, Try.ntmps58, cW_eq, hi, hi1, cT_eq, heap_new, heap_set, heap_app, heap_take]) <;> exact rfl
  · exact rfl
  · (simp only [go_sem, Try.ntmps58, cW_eq, hi, hi1, cT_eq, heap_new, heap_set, heap_app, heap_take]) <;> exact rfl
  · (simp only [go_sem, Try.ntmps58, cW_eq, hi, hi1, cT_eq, heap_new, heap_set, heap_app, heap_take]) <;> exact rfl
  · exact ⟨_, Try.func57, rfl, rfl⟩
  · (simp only [go_sem, Try.ntmps58, cW_eq, hi, hi1, cT_eq, heap_new, heap_set, heap_app, heap_take]) <;> exact rfl
  · (simp only [go_sem, Try.ntmps58, cW_eq, hi, hi1, cT_eq, heap_new, heap_set, heap_app, heap_take]) <;> exact rfl
  · exact mv_sum _ (M.ranks_wide ok) (by omega)
  apply W_run
  · (simp only [go_sem, Try.ntmps58, cW_eq, hi, hi1, cT_eq, heap_new, heap_set, heap_app, heap_take]) <;> exact rfl
  apply W_nil
  apply K_seq
  apply T_ret
  apply finS_ret
  · (simp only [go_sem, Try.ntmps58, cW_eq, hi, hi1, cT_eq, heap_new, heap_set, heap_app, heap_take, Try.f58]) <;> exact rfl
  · simp
  · simp
  -- leaf 0 (ret)
  
  all_goals rfl

theorem mv_leastY (t : Town) (g : FuncId) (o : V) (a b : Int) (f : Bool) (p : List Int) (x y : Int) (ho : ∀ q, o.all q = true) (hg : Callee Try.prog g)
  (hcall : ∀ h, Closed h → h[0]? = some (.box 28 (cT t)) → RetS Try.prog g [.sl 1 (rI p), .ptr 0 0] h (.agg [.int .i64 x, .int .i64 y]) h) : RetY Try.prog 6 [.sl 1 (rI p)] (hpL t g o a b f ++ extP t .nil 6 7) (.bool true) (if !f || (decide (x < a) || (x == a && decide (y < b))) then hpL t g (.sl 1 (rI p)) x y true ++ extP t .nil 6 7 else hpL t g o a b f ++ extP t .nil 6 7) := by
  refine RetY_intro (pe := none) (tm := tmL t g) (ps := #[13]) (asg := asOf Try.f55) (bd := bdOf Try.f55) rfl rfl fun ro => ?_
  apply T_r F
  · (simp only [go_sem, hpL, extP, tmL, zipSet, cX_eq]) <;> exact rfl
  apply yas_next
  · (simp only [go_sem, hpL, extP, tmL, zipSet, cX_eq]) <;> exact rfl
  apply T_block
  apply T_seq
  apply T_wL F [0, 1, 2, 3, 4] rfl
  apply W_pre [0, 1] [2, 3, 4]
  · (simp only [go_sem, hpL, extP, tmL, zipSet, cX_eq]) <;> exact rfl
  apply W_callS -- call 0
  · (simp only [go_sem, hpL, extP, tmL, zipSet, cX_eq]) <;> exact rfl
  · (simp only [go_sem, hpL, extP, tmL, zipSet, cX_eq]) <;> exact rfl
  · exact rfl
  · (simp only [go_sem, hpL, extP, tmL, zipSet, cX_eq]) <;> exact rfl
  · (simp only [go_sem, hpL, extP, tmL, zipSet, cX_eq]) <;> exact rfl
  · exact hg
  · exact hcall _ (by simp [Closed, AObj.all, V.all, V.allL, rI_all, rB_all, rL_all, rH_all, rP_all, ho]) rfl
  apply W_run
  · (simp only [go_sem, hpL, extP, tmL, zipSet, cX_eq]) <;> exact rfl
  apply W_nil
  apply K_seq
  apply T_seq
  apply T_wL F [0, 1, 2, 3, 4, 5, 6, 7, 8, 9, 10, 11, 12, 13, 14, 15, 16, 17, 18, 19, 20, 21, 22] rfl
  apply W_pre [0, 1, 2] [3, 4, 5, 6, 7, 8, 9, 10, 11, 12, 13, 14, 15, 16, 17, 18, 19, 20, 21, 22]
  · (simp only [go_sem, hpL, extP, tmL, zipSet, cX_eq]) <;> exact rfl
  apply W_guard
  · (simp only [go_sem, hpL, extP, tmL, zipSet, cX_eq]) <;> exact rfl
  · (simp only [go_sem, hpL, extP, tmL, zipSet, cX_eq]) <;> exact rfl
  · intro bg0t
    have g0t := bg0t
    try simp only [CS] at g0t
    try simp only [BS] at bg0t
    try exact absurd bg0t (by decide)
    all_goals (
  apply W_pre [3, 4, 5, 6] [7, 8, 9, 10, 11, 12, 13, 14, 15, 16, 17, 18, 19, 20, 21, 22]
  · (simp only [go_sem, hpL, extP, tmL, zipSet, cX_eq, bg0t]) <;> exact rfl
  apply W_pre [7, 8, 9] [10, 11, 12, 13, 14, 15, 16, 17, 18, 19, 20, 21, 22]
  · (simp only [go_sem, hpL, extP, tmL, zipSet, cX_eq, bg0t]) <;> exact rfl
  apply W_guard
  · (simp only [go_sem, hpL, extP, tmL, zipSet, cX_eq, bg0t]) <;> exact rfl
  · (simp only [go_sem, hpL, extP, tmL, zipSet, cX_eq, bg0t]) <;> exact rfl
  · intro bg1t
    have g1t := bg1t
    try simp only [CS] at g1t
    try simp only [BS] at bg1t
    try exact absurd bg1t (by decide)
    all_goals (
  apply W_pre [10, 11, 12, 13, 14, 15] [16, 17, 18, 19, 20, 21, 22]
  · (simp only [go_sem, hpL, extP, tmL, zipSet, cX_eq, bg0t, bg1t]) <;> exact rfl
  apply W_guard
  · (simp only [go_sem, hpL, extP, tmL, zipSet, cX_eq, bg0t, bg1t]) <;> exact rfl
  · (simp only [go_sem, hpL, extP, tmL, zipSet, cX_eq, bg0t, bg1t]) <;> exact rfl
  · intro bg2t
    have g2t := bg2t
    try simp only [CS] at g2t
    try simp only [BS] at bg2t
    try exact absurd bg2t (by decide)
    all_goals (
  apply W_pre [16, 17, 18, 19] [20, 21, 22]
  · (simp only [go_sem, hpL, extP, tmL, zipSet, cX_eq, bg0t, bg1t, bg2t]) <;> exact rfl
  apply W_run
  · (simp only [go_sem, hpL, extP, tmL, zipSet, cX_eq, bg0t, bg1t, bg2t]) <;> exact rfl
  apply W_nil
  apply K_seq
  apply T_if
  · (simp only [go_sem, hpL, extP, tmL, zipSet, cX_eq, bg0t, bg1t, bg2t]) <;> exact rfl
  · intro bh0t
    have h0t := bh0t
    try simp only [CS] at h0t
    try simp only [BS] at bh0t
    try exact absurd bh0t (by decide)
    all_goals (
  apply T_dL F [none, none, some (3, false), some (4, false), some (5, false)] [[], [3], [], [], []] [0, 1, 2, 3, 4] rfl (by kernel_rfl)
  apply D_run
  · (simp only [go_sem, hpL, extP, tmL, zipSet, cX_eq, bg0t, bg1t, bg2t, bh0t]) <;> exact rfl
  apply D_nil
  apply K_blk
  apply round_normal
  · (simp only [go_sem, hpL, extP, tmL, zipSet, cX_eq, bg0t, bg1t, bg2t, bh0t]) <;> exact rfl
  · simp only [go_sem, hpL, extP, tmL, zipSet, cX_eq, bg0t, bg1t, bg2t, bh0t]
  · simp only [go_sem, hpL, extP, tmL, zipSet, cX_eq, bg0t, bg1t, bg2t, bh0t]
  · (simp only [go_sem, hpL, extP, tmL, zipSet, cX_eq, bg0t, bg1t, bg2t, bh0t]) <;> simp_all
  · split
    · exact cloL _ _ _ (sl_all p)
    · exact cloL _ _ _ ho)
  · intro bh0f
    have h0f := bh0f
    try simp only [CS] at h0f
    try simp only [BS] at bh0f
    try exact absurd bh0f (by decide)
    all_goals (
  apply T_skip
  apply K_blk
  apply round_normal
  · (simp only [go_sem, hpL, extP, tmL, zipSet, cX_eq, bg0t, bg1t, bg2t, bh0f]) <;> exact rfl
  · simp only [go_sem, hpL, extP, tmL, zipSet, cX_eq, bg0t, bg1t, bg2t, bh0f]
  · simp only [go_sem, hpL, extP, tmL, zipSet, cX_eq, bg0t, bg1t, bg2t, bh0f]
  · (simp only [go_sem, hpL, extP, tmL, zipSet, cX_eq, bg0t, bg1t, bg2t, bh0f]) <;> simp_all
  · split
    · exact cloL _ _ _ (sl_all p)
    · exact cloL _ _ _ ho))
  · intro bg2f
    have g2f := bg2f
    try simp only [CS] at g2f
    try simp only [BS] at bg2f
    try exact absurd bg2f (by decide)
    all_goals (
  apply W_pre [16, 17, 18, 19] [20, 21, 22]
  · (simp only [go_sem, hpL, extP, tmL, zipSet, cX_eq, bg0t, bg1t, bg2f]) <;> exact rfl
  apply W_run
  · (simp only [go_sem, hpL, extP, tmL, zipSet, cX_eq, bg0t, bg1t, bg2f]) <;> exact rfl
  apply W_nil
  apply K_seq
  apply T_if
  · (simp only [go_sem, hpL, extP, tmL, zipSet, cX_eq, bg0t, bg1t, bg2f]) <;> exact rfl
  · intro bh1t
    exact absurd bh1t (by simp)
  · intro bh1f
    have h1f := bh1f
    try simp only [CS] at h1f
    try simp only [BS] at bh1f
    try exact absurd bh1f (by decide)
    all_goals (
  apply T_skip
  apply K_blk
  apply round_normal
  · (simp only [go_sem, hpL, extP, tmL, zipSet, cX_eq, bg0t, bg1t, bg2f, bh1f]) <;> exact rfl
  · simp only [go_sem, hpL, extP, tmL, zipSet, cX_eq, bg0t, bg1t, bg2f, bh1f]
  · simp only [go_sem, hpL, extP, tmL, zipSet, cX_eq, bg0t, bg1t, bg2f, bh1f]
  · (simp only [go_sem, hpL, extP, tmL, zipSet, cX_eq, bg0t, bg1t, bg2f, bh1f]) <;> simp_all
  · split
    · exact cloL _ _ _ (sl_all p)
    · exact cloL _ _ _ ho)))
  · intro bg1f
    have g1f := bg1f
    try simp only [CS] at g1f
    try simp only [BS] at bg1f
    try exact absurd bg1f (by decide)
    all_goals (
  apply W_pre [10, 11, 12, 13] [14, 15, 16, 17, 18, 19, 20, 21, 22]
  · (simp only [go_sem, hpL, extP, tmL, zipSet, cX_eq, bg0t, bg1f]) <;> exact rfl
  apply W_pre [14, 15, 16, 17] [18, 19, 20, 21, 22]
  · (simp only [go_sem, hpL, extP, tmL, zipSet, cX_eq, bg0t, bg1f]) <;> exact rfl
  apply W_run
  · (simp only [go_sem, hpL, extP, tmL, zipSet, cX_eq, bg0t, bg1f]) <;> exact rfl
  apply W_nil
  apply K_seq
  apply T_if
  · (simp only [go_sem, hpL, extP, tmL, zipSet, cX_eq, bg0t, bg1f]) <;> exact rfl
  · intro bh2t
    have h2t := bh2t
    try simp only [CS] at h2t
    try simp only [BS] at bh2t
    try exact absurd bh2t (by decide)
    all_goals (
  apply T_dL F [none, none, some (3, false), some (4, false), some (5, false)] [[], [3], [], [], []] [0, 1, 2, 3, 4] rfl (by kernel_rfl)
  apply D_run
  · (simp only [go_sem, hpL, extP, tmL, zipSet, cX_eq, bg0t, bg1f, bh2t]) <;> exact rfl
  apply D_nil
  apply K_blk
  apply round_normal
  · (simp only [go_sem, hpL, extP, tmL, zipSet, cX_eq, bg0t, bg1f, bh2t]) <;> exact rfl
  · simp only [go_sem, hpL, extP, tmL, zipSet, cX_eq, bg0t, bg1f, bh2t]
  · simp only [go_sem, hpL, extP, tmL, zipSet, cX_eq, bg0t, bg1f, bh2t]
  · (simp only [go_sem, hpL, extP, tmL, zipSet, cX_eq, bg0t, bg1f, bh2t]) <;> simp_all
  · split
    · exact cloL _ _ _ (sl_all p)
    · exact cloL _ _ _ ho)
  · intro bh2f
    exact absurd bh2f (by simp)))
  · intro bg0f
    have g0f := bg0f
    try simp only [CS] at g0f
    try simp only [BS] at bg0f
    try exact absurd bg0f (by decide)
    all_goals (
  apply W_pre [3, 4, 5, 6] [7, 8, 9, 10, 11, 12, 13, 14, 15, 16, 17, 18, 19, 20, 21, 22]
  · (simp only [go_sem, hpL, extP, tmL, zipSet, cX_eq, bg0f]) <;> exact rfl
  apply W_pre [7, 8, 9, 10] [11, 12, 13, 14, 15, 16, 17, 18, 19, 20, 21, 22]
  · (simp only [go_sem, hpL, extP, tmL, zipSet, cX_eq, bg0f]) <;> exact rfl
  apply W_pre [11, 12, 13, 14] [15, 16, 17, 18, 19, 20, 21, 22]
  · (simp only [go_sem, hpL, extP, tmL, zipSet, cX_eq, bg0f]) <;> exact rfl
  apply W_pre [15, 16, 17, 18] [19, 20, 21, 22]
  · (simp only [go_sem, hpL, extP, tmL, zipSet, cX_eq, bg0f]) <;> exact rfl
  apply W_run
  · (simp only [go_sem, hpL, extP, tmL, zipSet, cX_eq, bg0f]) <;> exact rfl
  apply W_nil
  apply K_seq
  apply T_if
  · (simp only [go_sem, hpL, extP, tmL, zipSet, cX_eq, bg0f]) <;> exact rfl
  · intro bh3t
    have h3t := bh3t
    try simp only [CS] at h3t
    try simp only [BS] at bh3t
    try exact absurd bh3t (by decide)
    all_goals (
  apply T_dL F [none, none, some (3, false), some (4, false), some (5, false)] [[], [3], [], [], []] [0, 1, 2, 3, 4] rfl (by kernel_rfl)
  apply D_run
  · (simp only [go_sem, hpL, extP, tmL, zipSet, cX_eq, bg0f, bh3t]) <;> exact rfl
  apply D_nil
  apply K_blk
  apply round_normal
  · (simp only [go_sem, hpL, extP, tmL, zipSet, cX_eq, bg0f, bh3t]) <;> exact rfl
  · simp only [go_sem, hpL, extP, tmL, zipSet, cX_eq, bg0f, bh3t]
  · simp only [go_sem, hpL, extP, tmL, zipSet, cX_eq, bg0f, bh3t]
  · (simp only [go_sem, hpL, extP, tmL, zipSet, cX_eq, bg0f, bh3t]) <;> simp_all
  · split
    · exact cloL _ _ _ (sl_all p)
    · exact cloL _ _ _ ho)
  · intro bh3f
    exact absurd bh3f (by simp))


/-- The heap when these plans have come. -/
noncomputable def hpO (t : Town) (g : FuncId) (o : Option (List Int × Int × Int)) : List AObj := hpL t g (oV o) (oM o).1 (oM o).2 o.isSome
theorem hpO_good (t : Town) (g : FuncId) (o : Option (List Int × Int × Int)) : Gs t .nil 6 7 8 9 10 (hpO t g o ++ extP t .nil 6 7) :=
  ⟨cloL _ _ _ (oV_all o), rfl, rfl, rfl, rfl⟩
theorem hpO_closed (t : Town) (g : FuncId) (o : Option (List Int × Int × Int)) : Closed (hpO t g o) := by
  have ho := oV_all o
  show Clo 7 _
  simp [Clo, hpO, hpL, extP, tmL, cX_eq, cT_eq, AObj.all, V.all, V.allL, rI_all, rB_all, rL_all, rH_all, rP_all, ho]
theorem feedL {t : Town} {g : FuncId} {f : List Int → Int × Int} (hg : Callee Try.prog g) (hcall : ∀ p, p ∈ M.plans t → ∀ h, Closed h → h[0]? = some (.box 28 (cT t)) → RetS Try.prog g [.sl 1 (rI p), .ptr 0 0] h (.agg [.int .i64 (f p).1, .int .i64 (f p).2]) h) :
    ∀ (l : List (List Int)), (∀ p ∈ l, p ∈ M.plans t) → ∀ o, FeedP t .nil 6 7 8 9 10 l (hpO t g o ++ extP t .nil 6 7) true (hpO t g (l.foldl (M.pick f) o) ++ extP t .nil 6 7)
  | [], _, o => .nil (hpO_good t g o)
  | p :: l, hl, o => by
    refine .go (hpO_good t g o) (h1 := hpO t g (M.pick f o p) ++ extP t .nil 6 7) ?_ (feedL hg hcall l (fun q hq => hl q (by simp [hq])) (M.pick f o p))
    have h := mv_leastY t g (oV o) (oM o).1 (oM o).2 o.isSome p (f p).1 (f p).2 (oV_all o) hg (hcall p (hl p (by simp)))
    have e : (if (!o.isSome || (decide ((f p).1 < (oM o).1) || ((f p).1 == (oM o).1 && decide ((f p).2 < (oM o).2)))) = true then hpL t g (.sl 1 (rI p)) (f p).1 (f p).2 true ++ extP t .nil 6 7 else hpL t g (oV o) (oM o).1 (oM o).2 o.isSome ++ extP t .nil 6 7) = hpO t g (M.pick f o p) ++ extP t .nil 6 7 := by
      cases o with
      | none => rfl
      | some x =>
        obtain ⟨q, m⟩ := x
        have hp : M.pick f (some (q, m)) p = if M.lt2 (f p) m = true then some (p, f p) else some (q, m) := rfl
        rw [hp]
        change (if (!true || M.lt2 (f p) m) = true then hpL t g (.sl 1 (rI p)) (f p).1 (f p).2 true ++ extP t .nil 6 7 else hpL t g (oV (some (q, m))) m.1 m.2 true ++ extP t .nil 6 7) = _
        cases hc : M.lt2 (f p) m <;> rfl
    exact e ▸ h
end Go.Ab
namespace Go.Ab
open Go Go.RowKit Go.Proofs Fac
set_option linter.unusedVariables false
set_option linter.unusedSimpArgs false
set_option maxRecDepth 4000
set_option maxHeartbeats 1000000





theorem mv_least (t : Town) (g : FuncId) (f : List Int → Int × Int) (ok : M.Ok t) (hsl : t.schools.length ≤ 9223372036854775807) (hc : Closed [.box 28 (cT t)]) (hg : Callee Try.prog g)
  (hcall : ∀ p, p ∈ M.plans t → ∀ h, Closed h → h[0]? = some (.box 28 (cT t)) → RetS Try.prog g [.sl 1 (rI p), .ptr 0 0] h (.agg [.int .i64 (f p).1, .int .i64 (f p).2]) h) (r : Option (List Int × Int × Int)) (hr : r = M.least f (M.plans t)) : RetS Try.prog 55 [.fn 51 [.agg (cX t .nil)] [], .fn g [] [.ptr 0 0]] [.box 28 (cT t)] (.tup [oV r, .agg [.int .i64 (oM r).1, .int .i64 (oM r).2], .bool r.isSome]) [.box 28 (cT t)] := by
  have h6 := M.houses_le ok
  apply RetS_fin (fn := Try.f55) Try.func55 rfl (by simp [V.all, V.allL, oV_all]) hc
  apply T_seq
  apply T_r F
  · (simp only [go_sem, Try.ntmps55, cX_eq, hpO, hpL, tmL]) <;> exact rfl
  apply K_seq
  apply T_seq
  apply T_r F
  · (simp only [go_sem, Try.ntmps55, cX_eq, hpO, hpL, tmL]) <;> exact rfl
  apply K_seq
  apply T_seq
  apply T_r F
  · (simp only [go_sem, Try.ntmps55, cX_eq, hpO, hpL, tmL]) <;> exact rfl
  apply K_seq
  apply T_seq
  apply T_r F
  · (simp only [go_sem, Try.ntmps55, cX_eq, hpO, hpL, tmL]) <;> exact rfl
  apply K_seq
  apply T_seq
  apply T_seq
  apply T_r F
  · (simp only [go_sem, Try.ntmps55, cX_eq, hpO, hpL, tmL]) <;> exact rfl
  apply K_seq
  apply T_block
  apply T_rangeFunc -- range 0
  · (simp only [go_sem, Try.ntmps55, cX_eq, hpO, hpL, tmL]) <;> exact rfl
  · exact ⟨_, Try.func51, rfl, rfl⟩
  · exact (mv_plans (h := hpO t g none) (h1 := hpO t g r) (b := true) PlV.nil ok (by omega) hsl (hpO_closed t g r) rfl (hr ▸ feedL hg hcall (M.plans t) (fun p hp => hp) none) : RetS Try.prog 51 [.agg (cX t .nil), .yield 6] (hpO t g none) (.tup []) (hpO t g r))
  · (simp only [go_sem, Try.ntmps55, cX_eq, hpO, hpL, tmL]) <;> exact rfl
  · simp
  simp only [contK]
  apply K_blk
  apply K_seq
  apply T_seq
  apply T_dL F [none, none, none, none, some (2, false), none] [[], [], [2], [], [], []] [0, 1, 2, 3, 4, 5] rfl (by kernel_rfl)
  apply D_run
  · (simp only [go_sem, Try.ntmps55, cX_eq, hpO, hpL, tmL]) <;> exact rfl
  apply D_nil
  apply K_seq
  apply T_ret
  apply finS_ret
  · (simp only [go_sem, Try.ntmps55, cX_eq, hpO, hpL, tmL, Try.f55]) <;> exact rfl
  · simp [cT_eq]
  · simp
  -- leaf 0 (ret)
  
  all_goals rfl

theorem mv_BestA (t : Town) (hh : t.houses.length ≤ 1000) (ok : ¬ M.Ok t) : Ret Try.prog 26 [.agg (cT t)] (.tup [.nil, .int .i64 0, .int .i64 2]) := by
  apply Ret_fin (fn := Try.f26) Try.func26 rfl
  apply T_seq
  apply T_r F
  · (simp only [go_sem, Try.ntmps26, ok]) <;> exact rfl
  apply K_seq
  apply T_seq
  apply T_seq
  apply T_wL F [0, 1, 2] rfl
  apply W_pre [0] [1, 2]
  · (simp only [go_sem, Try.ntmps26, ok]) <;> exact rfl
  apply W_call -- call 0 of function 46
  · (simp only [go_sem, Try.ntmps26, ok]) <;> exact rfl
  · (simp only [go_sem, Try.ntmps26, ok]) <;> exact rfl
  · exact rfl
  · (simp only [go_sem, Try.ntmps26, ok]) <;> exact rfl
  · (simp only [go_sem, Try.ntmps26, ok]) <;> exact rfl
  · exact ⟨_, Try.func46, rfl, rfl⟩
  · (simp only [go_sem, Try.ntmps26, ok]) <;> exact rfl
  · (simp only [go_sem, Try.ntmps26, ok]) <;> exact rfl
  · exact mv_valid _ (by omega)
  apply W_run
  · (simp only [go_sem, Try.ntmps26, ok]) <;> exact rfl
  apply W_nil
  apply K_seq
  apply T_ifT -- h0
  · (simp only [go_sem, Try.ntmps26, ok]) <;> exact rfl
  apply T_seq
  apply T_r F
  · (simp only [go_sem, Try.ntmps26, ok]) <;> exact rfl
  apply K_seq
  apply T_ret
  apply K_seqR
  apply fin_ret
  · (simp only [go_sem, Try.ntmps26, ok, Try.f26]) <;> exact rfl
  -- leaf 0 (ret)
  
  all_goals rfl

theorem mv_BestB (t : Town) (hh : t.houses.length ≤ 1000) (ok : M.Ok t) (hr : M.least (fun p => (M.sum (M.ranks t p), 0)) (M.plans t) = none) : Ret Try.prog 26 [.agg (cT t)] (.tup [.nil, .int .i64 0, .int .i64 5]) := by
  refine Ret.of_fits fun hfits => ?_
  simp only [V.fits, V.fitsL, V.fitsR, cT_fits] at hfits
  have hsl := hfits.1.schools
  apply Ret_fin (fn := Try.f26) Try.func26 rfl
  apply T_seq
  apply T_r F
  · (simp only [go_sem, Try.ntmps26, cX_eq, ok, hr, Option.isSome_none, oM, oV]) <;> exact rfl
  apply K_seq
  apply T_seq
  apply T_seq
  apply T_wL F [0, 1, 2] rfl
  apply W_pre [0] [1, 2]
  · (simp only [go_sem, Try.ntmps26, cX_eq, ok, hr, Option.isSome_none, oM, oV]) <;> exact rfl
  apply W_call -- call 0 of function 46
  · (simp only [go_sem, Try.ntmps26, cX_eq, ok, hr, Option.isSome_none, oM, oV]) <;> exact rfl
  · (simp only [go_sem, Try.ntmps26, cX_eq, ok, hr, Option.isSome_none, oM, oV]) <;> exact rfl
  · exact rfl
  · (simp only [go_sem, Try.ntmps26, cX_eq, ok, hr, Option.isSome_none, oM, oV]) <;> exact rfl
  · (simp only [go_sem, Try.ntmps26, cX_eq, ok, hr, Option.isSome_none, oM, oV]) <;> exact rfl
  · exact ⟨_, Try.func46, rfl, rfl⟩
  · (simp only [go_sem, Try.ntmps26, cX_eq, ok, hr, Option.isSome_none, oM, oV]) <;> exact rfl
  · (simp only [go_sem, Try.ntmps26, cX_eq, ok, hr, Option.isSome_none, oM, oV]) <;> exact rfl
  · exact mv_valid _ (by omega)
  apply W_run
  · (simp only [go_sem, Try.ntmps26, cX_eq, ok, hr, Option.isSome_none, oM, oV]) <;> exact rfl
  apply W_nil
  apply K_seq
  apply T_ifF -- h0
  · (simp only [go_sem, Try.ntmps26, cX_eq, ok, hr, Option.isSome_none, oM, oV]) <;> exact rfl
  apply T_skip
  apply K_seq
  apply T_seq
  apply T_wL F [0, 1, 2, 3, 4, 5, 6, 7, 8, 9, 10, 11, 12] rfl
  apply W_pre [0, 1, 2, 3] [4, 5, 6, 7, 8, 9, 10, 11, 12]
  · (simp only [go_sem, Try.ntmps26, cX_eq, ok, hr, Option.isSome_none, oM, oV]) <;> exact rfl
  apply W_callS -- call 1
  · (simp only [go_sem, Try.ntmps26, cX_eq, ok, hr, Option.isSome_none, oM, oV]) <;> exact rfl
  · (simp only [go_sem, Try.ntmps26, cX_eq, ok, hr, Option.isSome_none, oM, oV]) <;> exact rfl
  · exact rfl
  · (simp only [go_sem, Try.ntmps26, cX_eq, ok, hr, Option.isSome_none, oM, oV]) <;> exact rfl
  · (simp only [go_sem, Try.ntmps26, cX_eq, ok, hr, Option.isSome_none, oM, oV]) <;> exact rfl
  · exact ⟨_, Try.func55, rfl, rfl⟩
  · exact mv_least t 56 (fun p => (M.sum (M.ranks t p), 0)) ok hsl (by intro o ho; simp only [List.mem_singleton] at ho; subst ho; simp only [AObj.all, cT, V.allL, V.all, rI_all, rB_all, rL_all, rH_all, rP_all, Bool.and_self]) ⟨_, Try.func56, rfl, rfl⟩ (fun p hp h hc hi => mv_best1 t p h ok hc hi (M.mem_plans.1 hp).1) _ rfl
  apply W_pre [5, 6, 7, 8] [9, 10, 11, 12]
  · (simp only [go_sem, Try.ntmps26, cX_eq, ok, hr, Option.isSome_none, oM, oV]) <;> exact rfl
  apply W_run
  · (simp only [go_sem, Try.ntmps26, cX_eq, ok, hr, Option.isSome_none, oM, oV]) <;> exact rfl
  apply W_nil
  apply K_seq
  apply T_seq
  apply T_seq
  apply T_r F
  · (simp only [go_sem, Try.ntmps26, cX_eq, ok, hr, Option.isSome_none, oM, oV]) <;> exact rfl
  apply K_seq
  apply T_ifT -- h1
  · (simp only [go_sem, Try.ntmps26, cX_eq, ok, hr, Option.isSome_none, oM, oV]) <;> exact rfl
  apply T_seq
  apply T_r F
  · (simp only [go_sem, Try.ntmps26, cX_eq, ok, hr, Option.isSome_none, oM, oV]) <;> exact rfl
  apply K_seq
  apply T_ret
  apply K_seqR
  apply fin_ret
  · (simp only [go_sem, Try.ntmps26, cX_eq, ok, hr, Option.isSome_none, oM, oV, Try.f26]) <;> exact rfl
  -- leaf 0 (ret)
  
  all_goals rfl

theorem mv_BestC (t : Town) (hh : t.houses.length ≤ 1000) (ok : M.Ok t) (q : List Int) (m : Int × Int) (hr : M.least (fun p => (M.sum (M.ranks t p), 0)) (M.plans t) = some (q, m)) : Ret Try.prog 26 [.agg (cT t)] (.tup [.sl 1 (rI q), .int .i64 m.1, .int .i64 0]) := by
  refine Ret.of_fits fun hfits => ?_
  simp only [V.fits, V.fitsL, V.fitsR, cT_fits] at hfits
  have hsl := hfits.1.schools
  apply Ret_fin (fn := Try.f26) Try.func26 rfl
  apply T_seq
  apply T_r F
  · (simp only [go_sem, Try.ntmps26, cX_eq, ok, hr, Option.isSome_some, oM, oV]) <;> exact rfl
  apply K_seq
  apply T_seq
  apply T_seq
  apply T_wL F [0, 1, 2] rfl
  apply W_pre [0] [1, 2]
  · (simp only [go_sem, Try.ntmps26, cX_eq, ok, hr, Option.isSome_some, oM, oV]) <;> exact rfl
  apply W_call -- call 0 of function 46
  · (simp only [go_sem, Try.ntmps26, cX_eq, ok, hr, Option.isSome_some, oM, oV]) <;> exact rfl
  · (simp only [go_sem, Try.ntmps26, cX_eq, ok, hr, Option.isSome_some, oM, oV]) <;> exact rfl
  · exact rfl
  · (simp only [go_sem, Try.ntmps26, cX_eq, ok, hr, Option.isSome_some, oM, oV]) <;> exact rfl
  · (simp only [go_sem, Try.ntmps26, cX_eq, ok, hr, Option.isSome_some, oM, oV]) <;> exact rfl
  · exact ⟨_, Try.func46, rfl, rfl⟩
  · (simp only [go_sem, Try.ntmps26, cX_eq, ok, hr, Option.isSome_some, oM, oV]) <;> exact rfl
  · (simp only [go_sem, Try.ntmps26, cX_eq, ok, hr, Option.isSome_some, oM, oV]) <;> exact rfl
  · exact mv_valid _ (by omega)
  apply W_run
  · (simp only [go_sem, Try.ntmps26, cX_eq, ok, hr, Option.isSome_some, oM, oV]) <;> exact rfl
  apply W_nil
  apply K_seq
  apply T_ifF -- h0
  · (simp only [go_sem, Try.ntmps26, cX_eq, ok, hr, Option.isSome_some, oM, oV]) <;> exact rfl
  apply T_skip
  apply K_seq
  apply T_seq
  apply T_wL F [0, 1, 2, 3, 4, 5, 6, 7, 8, 9, 10, 11, 12] rfl
  apply W_pre [0, 1, 2, 3] [4, 5, 6, 7, 8, 9, 10, 11, 12]
  · (simp only [go_sem, Try.ntmps26, cX_eq, ok, hr, Option.isSome_some, oM, oV]) <;> exact rfl
  apply W_callS -- call 1
  · (simp only [go_sem, Try.ntmps26, cX_eq, ok, hr, Option.isSome_some, oM, oV]) <;> exact rfl
  · (simp only [go_sem, Try.ntmps26, cX_eq, ok, hr, Option.isSome_some, oM, oV]) <;> exact rfl
  · exact rfl
  · (simp only [go_sem, Try.ntmps26, cX_eq, ok, hr, Option.isSome_some, oM, oV]) <;> exact rfl
  · (simp only [go_sem, Try.ntmps26, cX_eq, ok, hr, Option.isSome_some, oM, oV]) <;> exact rfl
  · exact ⟨_, Try.func55, rfl, rfl⟩
  · exact mv_least t 56 (fun p => (M.sum (M.ranks t p), 0)) ok hsl (by intro o ho; simp only [List.mem_singleton] at ho; subst ho; simp only [AObj.all, cT, V.allL, V.all, rI_all, rB_all, rL_all, rH_all, rP_all, Bool.and_self]) ⟨_, Try.func56, rfl, rfl⟩ (fun p hp h hc hi => mv_best1 t p h ok hc hi (M.mem_plans.1 hp).1) _ rfl
  apply W_pre [5, 6, 7, 8] [9, 10, 11, 12]
  · (simp only [go_sem, Try.ntmps26, cX_eq, ok, hr, Option.isSome_some, oM, oV]) <;> exact rfl
  apply W_run
  · (simp only [go_sem, Try.ntmps26, cX_eq, ok, hr, Option.isSome_some, oM, oV]) <;> exact rfl
  apply W_nil
  apply K_seq
  apply T_seq
  apply T_seq
  apply T_r F
  · (simp only [go_sem, Try.ntmps26, cX_eq, ok, hr, Option.isSome_some, oM, oV]) <;> exact rfl
  apply K_seq
  apply T_ifF -- h1
  · (simp only [go_sem, Try.ntmps26, cX_eq, ok, hr, Option.isSome_some, oM, oV]) <;> exact rfl
  apply T_skip
  apply K_seq
  apply T_seq
  apply T_rQ F (by kernel_rfl)
  · (simp only [go_sem, Try.ntmps26, cX_eq, ok, hr, Option.isSome_some, oM, oV]) <;> exact rfl
  apply K_seq
  apply T_ret
  apply fin_ret
  · (simp only [go_sem, Try.ntmps26, cX_eq, ok, hr, Option.isSome_some, oM, oV, Try.f26]) <;> exact rfl
  -- leaf 0 (ret)
  simp only [go_sem, Try.ntmps26, cX_eq, ok, hr, Option.isSome_some, oM, oV, V.bool.injEq, V.int.injEq, true_and]
  all_goals rfl

theorem mv_FairestA (t : Town) (hh : t.houses.length ≤ 1000) (ok : ¬ M.Ok t) : Ret Try.prog 27 [.agg (cT t)] (.tup [.nil, .int .i64 0, .int .i64 2]) := by
  apply Ret_fin (fn := Try.f27) Try.func27 rfl
  apply T_seq
  apply T_r F
  · (simp only [go_sem, Try.ntmps27, ok]) <;> exact rfl
  apply K_seq
  apply T_seq
  apply T_seq
  apply T_wL F [0, 1, 2] rfl
  apply W_pre [0] [1, 2]
  · (simp only [go_sem, Try.ntmps27, ok]) <;> exact rfl
  apply W_call -- call 0 of function 46
  · (simp only [go_sem, Try.ntmps27, ok]) <;> exact rfl
  · (simp only [go_sem, Try.ntmps27, ok]) <;> exact rfl
  · exact rfl
  · (simp only [go_sem, Try.ntmps27, ok]) <;> exact rfl
  · (simp only [go_sem, Try.ntmps27, ok]) <;> exact rfl
  · exact ⟨_, Try.func46, rfl, rfl⟩
  · (simp only [go_sem, Try.ntmps27, ok]) <;> exact rfl
  · (simp only [go_sem, Try.ntmps27, ok]) <;> exact rfl
  · exact mv_valid _ (by omega)
  apply W_run
  · (simp only [go_sem, Try.ntmps27, ok]) <;> exact rfl
  apply W_nil
  apply K_seq
  apply T_ifT -- h0
  · (simp only [go_sem, Try.ntmps27, ok]) <;> exact rfl
  apply T_seq
  apply T_r F
  · (simp only [go_sem, Try.ntmps27, ok]) <;> exact rfl
  apply K_seq
  apply T_ret
  apply K_seqR
  apply fin_ret
  · (simp only [go_sem, Try.ntmps27, ok, Try.f27]) <;> exact rfl
  -- leaf 0 (ret)
  
  all_goals rfl

theorem mv_FairestB (t : Town) (hh : t.houses.length ≤ 1000) (ok : M.Ok t) (hr : M.least (fun p => (M.most (M.ranks t p), M.sum (M.ranks t p))) (M.plans t) = none) : Ret Try.prog 27 [.agg (cT t)] (.tup [.nil, .int .i64 0, .int .i64 5]) := by
  refine Ret.of_fits fun hfits => ?_
  simp only [V.fits, V.fitsL, V.fitsR, cT_fits] at hfits
  have hsl := hfits.1.schools
  apply Ret_fin (fn := Try.f27) Try.func27 rfl
  apply T_seq
  apply T_r F
  · (simp only [go_sem, Try.ntmps27, cX_eq, ok, hr, Option.isSome_none, oM, oV]) <;> exact rfl
  apply K_seq
  apply T_seq
  apply T_seq
  apply T_wL F [0, 1, 2] rfl
  apply W_pre [0] [1, 2]
  · (simp only [go_sem, Try.ntmps27, cX_eq, ok, hr, Option.isSome_none, oM, oV]) <;> exact rfl
  apply W_call -- call 0 of function 46
  · (simp only [go_sem, Try.ntmps27, cX_eq, ok, hr, Option.isSome_none, oM, oV]) <;> exact rfl
  · (simp only [go_sem, Try.ntmps27, cX_eq, ok, hr, Option.isSome_none, oM, oV]) <;> exact rfl
  · exact rfl
  · (simp only [go_sem, Try.ntmps27, cX_eq, ok, hr, Option.isSome_none, oM, oV]) <;> exact rfl
  · (simp only [go_sem, Try.ntmps27, cX_eq, ok, hr, Option.isSome_none, oM, oV]) <;> exact rfl
  · exact ⟨_, Try.func46, rfl, rfl⟩
  · (simp only [go_sem, Try.ntmps27, cX_eq, ok, hr, Option.isSome_none, oM, oV]) <;> exact rfl
  · (simp only [go_sem, Try.ntmps27, cX_eq, ok, hr, Option.isSome_none, oM, oV]) <;> exact rfl
  · exact mv_valid _ (by omega)
  apply W_run
  · (simp only [go_sem, Try.ntmps27, cX_eq, ok, hr, Option.isSome_none, oM, oV]) <;> exact rfl
  apply W_nil
  apply K_seq
  apply T_ifF -- h0
  · (simp only [go_sem, Try.ntmps27, cX_eq, ok, hr, Option.isSome_none, oM, oV]) <;> exact rfl
  apply T_skip
  apply K_seq
  apply T_seq
  apply T_wL F [0, 1, 2, 3, 4, 5, 6, 7, 8, 9, 10, 11, 12] rfl
  apply W_pre [0, 1, 2, 3] [4, 5, 6, 7, 8, 9, 10, 11, 12]
  · (simp only [go_sem, Try.ntmps27, cX_eq, ok, hr, Option.isSome_none, oM, oV]) <;> exact rfl
  apply W_callS -- call 1
  · (simp only [go_sem, Try.ntmps27, cX_eq, ok, hr, Option.isSome_none, oM, oV]) <;> exact rfl
  · (simp only [go_sem, Try.ntmps27, cX_eq, ok, hr, Option.isSome_none, oM, oV]) <;> exact rfl
  · exact rfl
  · (simp only [go_sem, Try.ntmps27, cX_eq, ok, hr, Option.isSome_none, oM, oV]) <;> exact rfl
  · (simp only [go_sem, Try.ntmps27, cX_eq, ok, hr, Option.isSome_none, oM, oV]) <;> exact rfl
  · exact ⟨_, Try.func55, rfl, rfl⟩
  · exact mv_least t 58 (fun p => (M.most (M.ranks t p), M.sum (M.ranks t p))) ok hsl (by intro o ho; simp only [List.mem_singleton] at ho; subst ho; simp only [AObj.all, cT, V.allL, V.all, rI_all, rB_all, rL_all, rH_all, rP_all, Bool.and_self]) ⟨_, Try.func58, rfl, rfl⟩ (fun p hp h hc hi => mv_fair1 t p h ok hc hi (M.mem_plans.1 hp).1 (M.mem_plans.1 hp).2) _ rfl
  apply W_pre [5, 6, 7, 8] [9, 10, 11, 12]
  · (simp only [go_sem, Try.ntmps27, cX_eq, ok, hr, Option.isSome_none, oM, oV]) <;> exact rfl
  apply W_run
  · (simp only [go_sem, Try.ntmps27, cX_eq, ok, hr, Option.isSome_none, oM, oV]) <;> exact rfl
  apply W_nil
  apply K_seq
  apply T_seq
  apply T_seq
  apply T_r F
  · (simp only [go_sem, Try.ntmps27, cX_eq, ok, hr, Option.isSome_none, oM, oV]) <;> exact rfl
  apply K_seq
  apply T_ifT -- h1
  · (simp only [go_sem, Try.ntmps27, cX_eq, ok, hr, Option.isSome_none, oM, oV]) <;> exact rfl
  apply T_seq
  apply T_r F
  · (simp only [go_sem, Try.ntmps27, cX_eq, ok, hr, Option.isSome_none, oM, oV]) <;> exact rfl
  apply K_seq
  apply T_ret
  apply K_seqR
  apply fin_ret
  · (simp only [go_sem, Try.ntmps27, cX_eq, ok, hr, Option.isSome_none, oM, oV, Try.f27]) <;> exact rfl
  -- leaf 0 (ret)
  
  all_goals rfl

theorem mv_FairestC (t : Town) (hh : t.houses.length ≤ 1000) (ok : M.Ok t) (q : List Int) (m : Int × Int) (hr : M.least (fun p => (M.most (M.ranks t p), M.sum (M.ranks t p))) (M.plans t) = some (q, m)) : Ret Try.prog 27 [.agg (cT t)] (.tup [.sl 1 (rI q), .int .i64 m.1, .int .i64 0]) := by
  refine Ret.of_fits fun hfits => ?_
  simp only [V.fits, V.fitsL, V.fitsR, cT_fits] at hfits
  have hsl := hfits.1.schools
  apply Ret_fin (fn := Try.f27) Try.func27 rfl
  apply T_seq
  apply T_r F
  · (simp only [go_sem, Try.ntmps27, cX_eq, ok, hr, Option.isSome_some, oM, oV]) <;> exact rfl
  apply K_seq
  apply T_seq
  apply T_seq
  apply T_wL F [0, 1, 2] rfl
  apply W_pre [0] [1, 2]
  · (simp only [go_sem, Try.ntmps27, cX_eq, ok, hr, Option.isSome_some, oM, oV]) <;> exact rfl
  apply W_call -- call 0 of function 46
  · (simp only [go_sem, Try.ntmps27, cX_eq, ok, hr, Option.isSome_some, oM, oV]) <;> exact rfl
  · (simp only [go_sem, Try.ntmps27, cX_eq, ok, hr, Option.isSome_some, oM, oV]) <;> exact rfl
  · exact rfl
  · (simp only [go_sem, Try.ntmps27, cX_eq, ok, hr, Option.isSome_some, oM, oV]) <;> exact rfl
  · (simp only [go_sem, Try.ntmps27, cX_eq, ok, hr, Option.isSome_some, oM, oV]) <;> exact rfl
  · exact ⟨_, Try.func46, rfl, rfl⟩
  · (simp only [go_sem, Try.ntmps27, cX_eq, ok, hr, Option.isSome_some, oM, oV]) <;> exact rfl
  · (simp only [go_sem, Try.ntmps27, cX_eq, ok, hr, Option.isSome_some, oM, oV]) <;> exact rfl
  · exact mv_valid _ (by omega)
  apply W_run
  · (simp only [go_sem, Try.ntmps27, cX_eq, ok, hr, Option.isSome_some, oM, oV]) <;> exact rfl
  apply W_nil
  apply K_seq
  apply T_ifF -- h0
  · (simp only [go_sem, Try.ntmps27, cX_eq, ok, hr, Option.isSome_some, oM, oV]) <;> exact rfl
  apply T_skip
  apply K_seq
  apply T_seq
  apply T_wL F [0, 1, 2, 3, 4, 5, 6, 7, 8, 9, 10, 11, 12] rfl
  apply W_pre [0, 1, 2, 3] [4, 5, 6, 7, 8, 9, 10, 11, 12]
  · (simp only [go_sem, Try.ntmps27, cX_eq, ok, hr, Option.isSome_some, oM, oV]) <;> exact rfl
  apply W_callS -- call 1
  · (simp only [go_sem, Try.ntmps27, cX_eq, ok, hr, Option.isSome_some, oM, oV]) <;> exact rfl
  · (simp only [go_sem, Try.ntmps27, cX_eq, ok, hr, Option.isSome_some, oM, oV]) <;> exact rfl
  · exact rfl
  · (simp only [go_sem, Try.ntmps27, cX_eq, ok, hr, Option.isSome_some, oM, oV]) <;> exact rfl
  · (simp only [go_sem, Try.ntmps27, cX_eq, ok, hr, Option.isSome_some, oM, oV]) <;> exact rfl
  · exact ⟨_, Try.func55, rfl, rfl⟩
  · exact mv_least t 58 (fun p => (M.most (M.ranks t p), M.sum (M.ranks t p))) ok hsl (by intro o ho; simp only [List.mem_singleton] at ho; subst ho; simp only [AObj.all, cT, V.allL, V.all, rI_all, rB_all, rL_all, rH_all, rP_all, Bool.and_self]) ⟨_, Try.func58, rfl, rfl⟩ (fun p hp h hc hi => mv_fair1 t p h ok hc hi (M.mem_plans.1 hp).1 (M.mem_plans.1 hp).2) _ rfl
  apply W_pre [5, 6, 7, 8] [9, 10, 11, 12]
  · (simp only [go_sem, Try.ntmps27, cX_eq, ok, hr, Option.isSome_some, oM, oV]) <;> exact rfl
  apply W_run
  · (simp only [go_sem, Try.ntmps27, cX_eq, ok, hr, Option.isSome_some, oM, oV]) <;> exact rfl
  apply W_nil
  apply K_seq
  apply T_seq
  apply T_seq
  apply T_r F
  · (simp only [go_sem, Try.ntmps27, cX_eq, ok, hr, Option.isSome_some, oM, oV]) <;> exact rfl
  apply K_seq
  apply T_ifF -- h1
  · (simp only [go_sem, Try.ntmps27, cX_eq, ok, hr, Option.isSome_some, oM, oV]) <;> exact rfl
  apply T_skip
  apply K_seq
  apply T_seq
  apply T_rQ F (by kernel_rfl)
  · (simp only [go_sem, Try.ntmps27, cX_eq, ok, hr, Option.isSome_some, oM, oV]) <;> exact rfl
  apply K_seq
  apply T_ret
  apply fin_ret
  · (simp only [go_sem, Try.ntmps27, cX_eq, ok, hr, Option.isSome_some, oM, oV, Try.f27]) <;> exact rfl
  -- leaf 0 (ret)
  simp only [go_sem, Try.ntmps27, cX_eq, ok, hr, Option.isSome_some, oM, oV, V.bool.injEq, V.int.injEq, true_and]
  all_goals rfl

end Go.Ab
namespace Go.Ab
open Go Go.RowKit Go.Proofs
set_option linter.unusedVariables false
/-! ### exchanges: the heap while plans come -/
/-- The slots when the loop begins. -/
noncomputable def tmE (t : Town) (p : List Int) : List V := [.agg (cT t), .sl 1 (rI p), .ptr 0 0, .ptr 1 0, .ptr 2 0, .ptr 3 0, .ptr 4 0, .int .i64 0, .ptr 5 0, .undef, .undef, .undef, .agg (cT t), .sl 1 (rI p), .agg (cX t (.sl 1 (rI p))), .agg (cX t (.sl 1 (rI p))), .int .i64 0, .int .i64 0, .bool false, .undef, .agg (cX t (.sl 1 (rI p))), .sl 1 (rI (M.ranks t p)), .agg (cX t (.sl 1 (rI p))), .fn 51 [.agg (cX t (.sl 1 (rI p)))] []] ++ List.replicate 33 .undef
/-- The heap, but for the search's own boxes. -/
noncomputable def hpE (t : Town) (p : List Int) (o : V) (st : LoopState) (pe : Option Code) : List AObj := [.box 28 (cT t), .box 23 [.sl 1 (rI p)], .box 23 [o], .box 36 [.int .i64 0], .box 69 (cX t (.sl 1 (rI p))), .box 23 [.sl 1 (rI (M.ranks t p))], .loop st pe (tmE t p) #[24] (asOf Try.f20) (bdOf Try.f20)]
theorem cloE {t : Town} {p : List Int} {o : V} {st : LoopState} {pe : Option Code} (ho : ∀ q, o.all q = true) : Clo 10 (hpE t p o st pe ++ extP t (.sl 1 (rI p)) 6 7) := by
  simp [Clo, hpE, extP, tmE, cX_eq, cT_eq, AObj.all, V.all, V.allL, rI_all, rB_all, rL_all, rH_all, rP_all, ho]
theorem hpE_closed {t : Town} {p : List Int} {o : V} {st : LoopState} {pe : Option Code} (ho : ∀ q, o.all q = true) : Closed (hpE t p o st pe) := by
  show Clo 7 _
  simp [Clo, hpE, extP, tmE, cX_eq, cT_eq, AObj.all, V.all, V.allL, rI_all, rB_all, rL_all, rH_all, rP_all, ho]
theorem M.rank_len {t : Town} {p : List Int} {k : Nat} (h : k < p.length) : (M.ranks t p)[k]'(by rw [M.ranks_length]; exact h) = M.rank t k p[k] := by
  simp [M.ranks, M.at_get h]
theorem M.pleases_iff {t : Town} {p q : List Int} (hl : p.length = q.length) : M.pleases t p q = true ↔ p ≠ q ∧ ∀ k (h1 : k < p.length) (h2 : k < q.length), p[k] = q[k] ∨ M.rank t k q[k] < M.rank t k p[k] := by
  unfold M.pleases M.differ
  rw [Bool.and_eq_true, List.all_eq_true]
  constructor
  · rintro ⟨h1, h2⟩
    refine ⟨by simpa using h2, fun k h3 h4 => ?_⟩
    have := h1 k (List.mem_range.2 h3)
    rw [M.pleaseAt, M.at_get h3, M.at_get h4] at this
    simpa using this
  · rintro ⟨h1, h2⟩
    refine ⟨fun k hk => ?_, by simpa using h1⟩
    have h3 := List.mem_range.1 hk
    have h4 : k < q.length := by omega
    rw [M.pleaseAt, M.at_get h3, M.at_get h4]
    simpa using h2 k h3 h4
end Go.Ab
