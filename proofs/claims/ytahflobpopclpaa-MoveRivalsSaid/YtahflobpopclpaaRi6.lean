/- The law MoveRivals holds of the given program for every input: it returns true, and the input reads as it did. -/
import Derived.Test.YtahflobpopclpaaRi5
import Derived.Test.YtahflobpopclpaaRows
import Derived.WalkKit
import Derived.ProofKit
import Derived.OpenShut
import Derived.ShutString
import Derived.ChangeOld
import Derived.Below
import Derived.SizedLaws
set_option linter.unusedVariables false
set_option linter.unusedSimpArgs false
namespace Go.Ab
open Go Go.RowKit Go.Proofs Fac
set_option linter.unusedVariables false
set_option linter.unusedSimpArgs false
set_option maxRecDepth 4000
set_option maxHeartbeats 1000000





theorem law_rivalsA (t : Town) (q : List Int) (hs : ¬ M.Short t) : Ret Try.prog 8 [.agg (cT t), .sl 1 (rI q)] (.bool true) := by
  apply Ret_fin (fn := Try.f8) Try.func8 rfl
  apply T_seq
  apply T_r F
  · (simp only [go_sem, Try.ntmps8, hs]) <;> exact rfl
  apply K_seq
  apply T_seq
  apply T_seq
  apply T_wL F [0, 1, 2, 3, 4, 5, 6, 7, 8, 9, 10, 11, 12, 13] rfl
  apply W_pre [0] [1, 2, 3, 4, 5, 6, 7, 8, 9, 10, 11, 12, 13]
  · (simp only [go_sem, Try.ntmps8, hs]) <;> exact rfl
  apply W_call -- call 0 of function 12
  · (simp only [go_sem, Try.ntmps8, hs]) <;> exact rfl
  · (simp only [go_sem, Try.ntmps8, hs]) <;> exact rfl
  · exact rfl
  · (simp only [go_sem, Try.ntmps8, hs]) <;> exact rfl
  · (simp only [go_sem, Try.ntmps8, hs]) <;> exact rfl
  · exact ⟨_, Try.func12, rfl, rfl⟩
  · (simp only [go_sem, Try.ntmps8, hs]) <;> exact rfl
  · (simp only [go_sem, Try.ntmps8, hs]) <;> exact rfl
  · exact law_short _
  apply W_pre [2, 3, 4, 5] [6, 7, 8, 9, 10, 11, 12, 13]
  · (simp only [go_sem, Try.ntmps8, hs]) <;> exact rfl
  apply W_pre [6, 7, 8, 9] [10, 11, 12, 13]
  · (simp only [go_sem, Try.ntmps8, hs]) <;> exact rfl
  apply W_run
  · (simp only [go_sem, Try.ntmps8, hs]) <;> exact rfl
  apply W_nil
  apply K_seq
  apply T_ifT -- h0
  · (simp only [go_sem, Try.ntmps8, hs]) <;> exact rfl
  apply T_seq
  apply T_wL F [0, 1] rfl
  apply W_call -- call 1 of function 16
  · (simp only [go_sem, Try.ntmps8, hs]) <;> exact rfl
  · (simp only [go_sem, Try.ntmps8, hs]) <;> exact rfl
  · exact rfl
  · (simp only [go_sem, Try.ntmps8, hs]) <;> exact rfl
  · (simp only [go_sem, Try.ntmps8, hs]) <;> exact rfl
  · exact ⟨_, Try.func16, rfl, rfl⟩
  · (simp only [go_sem, Try.ntmps8, hs]) <;> exact rfl
  · (simp only [go_sem, Try.ntmps8, hs]) <;> exact rfl
  · exact known_ok
  apply W_run
  · (simp only [go_sem, Try.ntmps8, hs]) <;> exact rfl
  apply W_nil
  apply K_seq
  apply T_ret
  apply K_seqR
  apply fin_ret
  · (simp only [go_sem, Try.ntmps8, hs, Try.f8]) <;> exact rfl
  -- leaf 0 (ret)
  
  all_goals rfl

theorem law_rivalsB (t : Town) (q : List Int) (hs : M.Short t) (ok : ¬ M.Ok t) : Ret Try.prog 8 [.agg (cT t), .sl 1 (rI q)] (.bool true) := by
  apply Ret_fin (fn := Try.f8) Try.func8 rfl
  apply T_seq
  apply T_r F
  · (simp only [go_sem, Try.ntmps8, hs, ok]) <;> exact rfl
  apply K_seq
  apply T_seq
  apply T_seq
  apply T_wL F [0, 1, 2, 3, 4, 5, 6, 7, 8, 9, 10, 11, 12, 13] rfl
  apply W_pre [0] [1, 2, 3, 4, 5, 6, 7, 8, 9, 10, 11, 12, 13]
  · (simp only [go_sem, Try.ntmps8, hs, ok]) <;> exact rfl
  apply W_call -- call 0 of function 12
  · (simp only [go_sem, Try.ntmps8, hs, ok]) <;> exact rfl
  · (simp only [go_sem, Try.ntmps8, hs, ok]) <;> exact rfl
  · exact rfl
  · (simp only [go_sem, Try.ntmps8, hs, ok]) <;> exact rfl
  · (simp only [go_sem, Try.ntmps8, hs, ok]) <;> exact rfl
  · exact ⟨_, Try.func12, rfl, rfl⟩
  · (simp only [go_sem, Try.ntmps8, hs, ok]) <;> exact rfl
  · (simp only [go_sem, Try.ntmps8, hs, ok]) <;> exact rfl
  · exact law_short _
  apply W_pre [2, 3, 4] [5, 6, 7, 8, 9, 10, 11, 12, 13]
  · (simp only [go_sem, Try.ntmps8, hs, ok]) <;> exact rfl
  apply W_call -- call 1 of function 13
  · (simp only [go_sem, Try.ntmps8, hs, ok]) <;> exact rfl
  · (simp only [go_sem, Try.ntmps8, hs, ok]) <;> exact rfl
  · exact rfl
  · (simp only [go_sem, Try.ntmps8, hs, ok]) <;> exact rfl
  · (simp only [go_sem, Try.ntmps8, hs, ok]) <;> exact rfl
  · exact ⟨_, Try.func13, rfl, rfl⟩
  · (simp only [go_sem, Try.ntmps8, hs, ok]) <;> exact rfl
  · (simp only [go_sem, Try.ntmps8, hs, ok]) <;> exact rfl
  · exact ref_town _
  apply W_pre [6, 7, 8, 9] [10, 11, 12, 13]
  · (simp only [go_sem, Try.ntmps8, hs, ok]) <;> exact rfl
  apply W_run
  · (simp only [go_sem, Try.ntmps8, hs, ok]) <;> exact rfl
  apply W_nil
  apply K_seq
  apply T_ifT -- h0
  · (simp only [go_sem, Try.ntmps8, hs, ok]) <;> exact rfl
  apply T_seq
  apply T_wL F [0, 1] rfl
  apply W_call -- call 2 of function 16
  · (simp only [go_sem, Try.ntmps8, hs, ok]) <;> exact rfl
  · (simp only [go_sem, Try.ntmps8, hs, ok]) <;> exact rfl
  · exact rfl
  · (simp only [go_sem, Try.ntmps8, hs, ok]) <;> exact rfl
  · (simp only [go_sem, Try.ntmps8, hs, ok]) <;> exact rfl
  · exact ⟨_, Try.func16, rfl, rfl⟩
  · (simp only [go_sem, Try.ntmps8, hs, ok]) <;> exact rfl
  · (simp only [go_sem, Try.ntmps8, hs, ok]) <;> exact rfl
  · exact known_ok
  apply W_run
  · (simp only [go_sem, Try.ntmps8, hs, ok]) <;> exact rfl
  apply W_nil
  apply K_seq
  apply T_ret
  apply K_seqR
  apply fin_ret
  · (simp only [go_sem, Try.ntmps8, hs, ok, Try.f8]) <;> exact rfl
  -- leaf 0 (ret)
  
  all_goals rfl

theorem law_rivalsC (t : Town) (q : List Int) (hs : M.Short t) (ok : M.Ok t) (hq : M.plan t q = false) : Ret Try.prog 8 [.agg (cT t), .sl 1 (rI q)] (.bool true) := by
  apply Ret_fin (fn := Try.f8) Try.func8 rfl
  apply T_seq
  apply T_r F
  · (simp only [go_sem, Try.ntmps8, hs, ok, hq]) <;> exact rfl
  apply K_seq
  apply T_seq
  apply T_seq
  apply T_wL F [0, 1, 2, 3, 4, 5, 6, 7, 8, 9, 10, 11, 12, 13] rfl
  apply W_pre [0] [1, 2, 3, 4, 5, 6, 7, 8, 9, 10, 11, 12, 13]
  · (simp only [go_sem, Try.ntmps8, hs, ok, hq]) <;> exact rfl
  apply W_call -- call 0 of function 12
  · (simp only [go_sem, Try.ntmps8, hs, ok, hq]) <;> exact rfl
  · (simp only [go_sem, Try.ntmps8, hs, ok, hq]) <;> exact rfl
  · exact rfl
  · (simp only [go_sem, Try.ntmps8, hs, ok, hq]) <;> exact rfl
  · (simp only [go_sem, Try.ntmps8, hs, ok, hq]) <;> exact rfl
  · exact ⟨_, Try.func12, rfl, rfl⟩
  · (simp only [go_sem, Try.ntmps8, hs, ok, hq]) <;> exact rfl
  · (simp only [go_sem, Try.ntmps8, hs, ok, hq]) <;> exact rfl
  · exact law_short _
  apply W_pre [2, 3, 4] [5, 6, 7, 8, 9, 10, 11, 12, 13]
  · (simp only [go_sem, Try.ntmps8, hs, ok, hq]) <;> exact rfl
  apply W_call -- call 1 of function 13
  · (simp only [go_sem, Try.ntmps8, hs, ok, hq]) <;> exact rfl
  · (simp only [go_sem, Try.ntmps8, hs, ok, hq]) <;> exact rfl
  · exact rfl
  · (simp only [go_sem, Try.ntmps8, hs, ok, hq]) <;> exact rfl
  · (simp only [go_sem, Try.ntmps8, hs, ok, hq]) <;> exact rfl
  · exact ⟨_, Try.func13, rfl, rfl⟩
  · (simp only [go_sem, Try.ntmps8, hs, ok, hq]) <;> exact rfl
  · (simp only [go_sem, Try.ntmps8, hs, ok, hq]) <;> exact rfl
  · exact ref_town _
  apply W_pre [6, 7, 8, 9, 10] [11, 12, 13]
  · (simp only [go_sem, Try.ntmps8, hs, ok, hq]) <;> exact rfl
  apply W_call -- call 2 of function 14
  · (simp only [go_sem, Try.ntmps8, hs, ok, hq]) <;> exact rfl
  · (simp only [go_sem, Try.ntmps8, hs, ok, hq]) <;> exact rfl
  · exact rfl
  · (simp only [go_sem, Try.ntmps8, hs, ok, hq]) <;> exact rfl
  · (simp only [go_sem, Try.ntmps8, hs, ok, hq]) <;> exact rfl
  · exact ⟨_, Try.func14, rfl, rfl⟩
  · (simp only [go_sem, Try.ntmps8, hs, ok, hq]) <;> exact rfl
  · (simp only [go_sem, Try.ntmps8, hs, ok, hq]) <;> exact rfl
  · exact ref_plan _ _
  apply W_run
  · (simp only [go_sem, Try.ntmps8, hs, ok, hq]) <;> exact rfl
  apply W_nil
  apply K_seq
  apply T_ifT -- h0
  · (simp only [go_sem, Try.ntmps8, hs, ok, hq]) <;> exact rfl
  apply T_seq
  apply T_wL F [0, 1] rfl
  apply W_call -- call 3 of function 16
  · (simp only [go_sem, Try.ntmps8, hs, ok, hq]) <;> exact rfl
  · (simp only [go_sem, Try.ntmps8, hs, ok, hq]) <;> exact rfl
  · exact rfl
  · (simp only [go_sem, Try.ntmps8, hs, ok, hq]) <;> exact rfl
  · (simp only [go_sem, Try.ntmps8, hs, ok, hq]) <;> exact rfl
  · exact ⟨_, Try.func16, rfl, rfl⟩
  · (simp only [go_sem, Try.ntmps8, hs, ok, hq]) <;> exact rfl
  · (simp only [go_sem, Try.ntmps8, hs, ok, hq]) <;> exact rfl
  · exact known_ok
  apply W_run
  · (simp only [go_sem, Try.ntmps8, hs, ok, hq]) <;> exact rfl
  apply W_nil
  apply K_seq
  apply T_ret
  apply K_seqR
  apply fin_ret
  · (simp only [go_sem, Try.ntmps8, hs, ok, hq, Try.f8]) <;> exact rfl
  -- leaf 0 (ret)
  
  all_goals rfl

theorem law_rivalsD (t : Town) (q : List Int) (hs : M.Short t) (ok : M.Ok t) (hq : M.plan t q = true) (hn : M.plans t = []) : Ret Try.prog 8 [.agg (cT t), .sl 1 (rI q)] (.bool true) := by
  have hh : t.houses.length ≤ 1000 := by have := hs.2.2.2.2.2.1; omega
  have naq := M.plans_nil hn hq
  have eq : M.err t q = 7 := by simp [M.err, ok, hq, naq]
  have kq : M.rk t q = [] := by simp [M.rk, eq]
  apply Ret_fin (fn := Try.f8) Try.func8 rfl
  apply T_seq
  apply T_r F
  · (simp only [go_sem, Try.ntmps8, hs, ok, hq, bne_self_eq_false, eq, kq]) <;> exact rfl
  apply K_seq
  apply T_seq
  apply T_seq
  apply T_wL F [0, 1, 2, 3, 4, 5, 6, 7, 8, 9, 10, 11, 12, 13] rfl
  apply W_pre [0] [1, 2, 3, 4, 5, 6, 7, 8, 9, 10, 11, 12, 13]
  · (simp only [go_sem, Try.ntmps8, hs, ok, hq, bne_self_eq_false, eq, kq]) <;> exact rfl
  apply W_call -- call 0 of function 12
  · (simp only [go_sem, Try.ntmps8, hs, ok, hq, bne_self_eq_false, eq, kq]) <;> exact rfl
  · (simp only [go_sem, Try.ntmps8, hs, ok, hq, bne_self_eq_false, eq, kq]) <;> exact rfl
  · exact rfl
  · (simp only [go_sem, Try.ntmps8, hs, ok, hq, bne_self_eq_false, eq, kq]) <;> exact rfl
  · (simp only [go_sem, Try.ntmps8, hs, ok, hq, bne_self_eq_false, eq, kq]) <;> exact rfl
  · exact ⟨_, Try.func12, rfl, rfl⟩
  · (simp only [go_sem, Try.ntmps8, hs, ok, hq, bne_self_eq_false, eq, kq]) <;> exact rfl
  · (simp only [go_sem, Try.ntmps8, hs, ok, hq, bne_self_eq_false, eq, kq]) <;> exact rfl
  · exact law_short _
  apply W_pre [2, 3, 4] [5, 6, 7, 8, 9, 10, 11, 12, 13]
  · (simp only [go_sem, Try.ntmps8, hs, ok, hq, bne_self_eq_false, eq, kq]) <;> exact rfl
  apply W_call -- call 1 of function 13
  · (simp only [go_sem, Try.ntmps8, hs, ok, hq, bne_self_eq_false, eq, kq]) <;> exact rfl
  · (simp only [go_sem, Try.ntmps8, hs, ok, hq, bne_self_eq_false, eq, kq]) <;> exact rfl
  · exact rfl
  · (simp only [go_sem, Try.ntmps8, hs, ok, hq, bne_self_eq_false, eq, kq]) <;> exact rfl
  · (simp only [go_sem, Try.ntmps8, hs, ok, hq, bne_self_eq_false, eq, kq]) <;> exact rfl
  · exact ⟨_, Try.func13, rfl, rfl⟩
  · (simp only [go_sem, Try.ntmps8, hs, ok, hq, bne_self_eq_false, eq, kq]) <;> exact rfl
  · (simp only [go_sem, Try.ntmps8, hs, ok, hq, bne_self_eq_false, eq, kq]) <;> exact rfl
  · exact ref_town _
  apply W_pre [6, 7, 8, 9, 10] [11, 12, 13]
  · (simp only [go_sem, Try.ntmps8, hs, ok, hq, bne_self_eq_false, eq, kq]) <;> exact rfl
  apply W_call -- call 2 of function 14
  · (simp only [go_sem, Try.ntmps8, hs, ok, hq, bne_self_eq_false, eq, kq]) <;> exact rfl
  · (simp only [go_sem, Try.ntmps8, hs, ok, hq, bne_self_eq_false, eq, kq]) <;> exact rfl
  · exact rfl
  · (simp only [go_sem, Try.ntmps8, hs, ok, hq, bne_self_eq_false, eq, kq]) <;> exact rfl
  · (simp only [go_sem, Try.ntmps8, hs, ok, hq, bne_self_eq_false, eq, kq]) <;> exact rfl
  · exact ⟨_, Try.func14, rfl, rfl⟩
  · (simp only [go_sem, Try.ntmps8, hs, ok, hq, bne_self_eq_false, eq, kq]) <;> exact rfl
  · (simp only [go_sem, Try.ntmps8, hs, ok, hq, bne_self_eq_false, eq, kq]) <;> exact rfl
  · exact ref_plan _ _
  apply W_run
  · (simp only [go_sem, Try.ntmps8, hs, ok, hq, bne_self_eq_false, eq, kq]) <;> exact rfl
  apply W_nil
  apply K_seq
  apply T_ifF -- h0
  · (simp only [go_sem, Try.ntmps8, hs, ok, hq, bne_self_eq_false, eq, kq]) <;> exact rfl
  apply T_skip
  apply K_seq
  apply T_seq
  apply T_wL F [0, 1, 2, 3, 4, 5, 6, 7, 8] rfl
  apply W_pre [0] [1, 2, 3, 4, 5, 6, 7, 8]
  · (simp only [go_sem, Try.ntmps8, hs, ok, hq, bne_self_eq_false, eq, kq]) <;> exact rfl
  apply W_call -- call 3 of function 26
  · (simp only [go_sem, Try.ntmps8, hs, ok, hq, bne_self_eq_false, eq, kq]) <;> exact rfl
  · (simp only [go_sem, Try.ntmps8, hs, ok, hq, bne_self_eq_false, eq, kq]) <;> exact rfl
  · exact rfl
  · (simp only [go_sem, Try.ntmps8, hs, ok, hq, bne_self_eq_false, eq, kq]) <;> exact rfl
  · (simp only [go_sem, Try.ntmps8, hs, ok, hq, bne_self_eq_false, eq, kq]) <;> exact rfl
  · exact ⟨_, Try.func26, rfl, rfl⟩
  · (simp only [go_sem, Try.ntmps8, hs, ok, hq, bne_self_eq_false, eq, kq]) <;> exact rfl
  · (simp only [go_sem, Try.ntmps8, hs, ok, hq, bne_self_eq_false, eq, kq]) <;> exact rfl
  · exact mv_BestB t hh ok (by rw [hn]; rfl)
  apply W_pre [2, 3, 4, 5] [6, 7, 8]
  · (simp only [go_sem, Try.ntmps8, hs, ok, hq, bne_self_eq_false, eq, kq]) <;> exact rfl
  apply W_run
  · (simp only [go_sem, Try.ntmps8, hs, ok, hq, bne_self_eq_false, eq, kq]) <;> exact rfl
  apply W_nil
  apply K_seq
  apply T_seq
  apply T_wL F [0, 1, 2, 3, 4, 5, 6, 7, 8] rfl
  apply W_pre [0] [1, 2, 3, 4, 5, 6, 7, 8]
  · (simp only [go_sem, Try.ntmps8, hs, ok, hq, bne_self_eq_false, eq, kq]) <;> exact rfl
  apply W_call -- call 4 of function 27
  · (simp only [go_sem, Try.ntmps8, hs, ok, hq, bne_self_eq_false, eq, kq]) <;> exact rfl
  · (simp only [go_sem, Try.ntmps8, hs, ok, hq, bne_self_eq_false, eq, kq]) <;> exact rfl
  · exact rfl
  · (simp only [go_sem, Try.ntmps8, hs, ok, hq, bne_self_eq_false, eq, kq]) <;> exact rfl
  · (simp only [go_sem, Try.ntmps8, hs, ok, hq, bne_self_eq_false, eq, kq]) <;> exact rfl
  · exact ⟨_, Try.func27, rfl, rfl⟩
  · (simp only [go_sem, Try.ntmps8, hs, ok, hq, bne_self_eq_false, eq, kq]) <;> exact rfl
  · (simp only [go_sem, Try.ntmps8, hs, ok, hq, bne_self_eq_false, eq, kq]) <;> exact rfl
  · exact mv_FairestB t hh ok (by rw [hn]; rfl)
  apply W_pre [2, 3, 4, 5] [6, 7, 8]
  · (simp only [go_sem, Try.ntmps8, hs, ok, hq, bne_self_eq_false, eq, kq]) <;> exact rfl
  apply W_run
  · (simp only [go_sem, Try.ntmps8, hs, ok, hq, bne_self_eq_false, eq, kq]) <;> exact rfl
  apply W_nil
  apply K_seq
  apply T_seq
  apply T_wL F [0, 1, 2, 3, 4, 5, 6, 7] rfl
  apply W_pre [0, 1] [2, 3, 4, 5, 6, 7]
  · (simp only [go_sem, Try.ntmps8, hs, ok, hq, bne_self_eq_false, eq, kq]) <;> exact rfl
  apply W_call -- call 5 of function 34
  · (simp only [go_sem, Try.ntmps8, hs, ok, hq, bne_self_eq_false, eq, kq]) <;> exact rfl
  · (simp only [go_sem, Try.ntmps8, hs, ok, hq, bne_self_eq_false, eq, kq]) <;> exact rfl
  · exact rfl
  · (simp only [go_sem, Try.ntmps8, hs, ok, hq, bne_self_eq_false, eq, kq]) <;> exact rfl
  · (simp only [go_sem, Try.ntmps8, hs, ok, hq, bne_self_eq_false, eq, kq]) <;> exact rfl
  · exact ⟨_, Try.func34, rfl, rfl⟩
  · (simp only [go_sem, Try.ntmps8, hs, ok, hq, bne_self_eq_false, eq, kq]) <;> exact rfl
  · (simp only [go_sem, Try.ntmps8, hs, ok, hq, bne_self_eq_false, eq, kq]) <;> exact rfl
  · exact mv_RanksAll (by omega)
  apply W_run
  · (simp only [go_sem, Try.ntmps8, hs, ok, hq, bne_self_eq_false, eq, kq]) <;> exact rfl
  apply W_nil
  apply K_seq
  apply T_seq
  apply T_seq
  apply T_r F
  · (simp only [go_sem, Try.ntmps8, hs, ok, hq, bne_self_eq_false, eq, kq]) <;> exact rfl
  apply K_seq
  apply T_ifT -- h1
  · (simp only [go_sem, Try.ntmps8, hs, ok, hq, bne_self_eq_false, eq, kq]) <;> exact rfl
  apply T_seq
  apply T_wL F [0, 1, 2, 3, 4, 5, 6, 7, 8, 9, 10, 11, 12, 13] rfl
  apply W_pre [0, 1, 2, 3] [4, 5, 6, 7, 8, 9, 10, 11, 12, 13]
  · (simp only [go_sem, Try.ntmps8, hs, ok, hq, bne_self_eq_false, eq, kq]) <;> exact rfl
  apply W_pre [4, 5, 6, 7] [8, 9, 10, 11, 12, 13]
  · (simp only [go_sem, Try.ntmps8, hs, ok, hq, bne_self_eq_false, eq, kq]) <;> exact rfl
  apply W_pre [8, 9, 10] [11, 12, 13]
  · (simp only [go_sem, Try.ntmps8, hs, ok, hq, bne_self_eq_false, eq, kq]) <;> exact rfl
  apply W_call -- call 6 of function 16
  · (simp only [go_sem, Try.ntmps8, hs, ok, hq, bne_self_eq_false, eq, kq]) <;> exact rfl
  · (simp only [go_sem, Try.ntmps8, hs, ok, hq, bne_self_eq_false, eq, kq]) <;> exact rfl
  · exact rfl
  · (simp only [go_sem, Try.ntmps8, hs, ok, hq, bne_self_eq_false, eq, kq]) <;> exact rfl
  · (simp only [go_sem, Try.ntmps8, hs, ok, hq, bne_self_eq_false, eq, kq]) <;> exact rfl
  · exact ⟨_, Try.func16, rfl, rfl⟩
  · (simp only [go_sem, Try.ntmps8, hs, ok, hq, bne_self_eq_false, eq, kq]) <;> exact rfl
  · (simp only [go_sem, Try.ntmps8, hs, ok, hq, bne_self_eq_false, eq, kq]) <;> exact rfl
  · exact known_ok
  apply W_run
  · (simp only [go_sem, Try.ntmps8, hs, ok, hq, bne_self_eq_false, eq, kq]) <;> exact rfl
  apply W_nil
  apply K_seq
  apply T_ret
  apply K_seqR
  apply fin_ret
  · (simp only [go_sem, Try.ntmps8, hs, ok, hq, bne_self_eq_false, eq, kq, Try.f8]) <;> exact rfl
  -- leaf 0 (ret)
  
  all_goals rfl

theorem law_rivalsE (t : Town) (q : List Int) (hs : M.Short t) (ok : M.Ok t) (hq : M.plan t q = true) (hn : M.plans t ≠ []) (naq : M.allowed t q = false) : Ret Try.prog 8 [.agg (cT t), .sl 1 (rI q)] (.bool true) := by
  have hh : t.houses.length ≤ 1000 := by have := hs.2.2.2.2.2.1; omega
  obtain ⟨a, hBest, ha, aa, bB⟩ := M.best_of hn
  obtain ⟨b, hFair, hb, ab, bF⟩ := M.fair_of hn
  have ea : M.err t a = 0 := by simp [M.err, ok, ha, aa]
  have ka : M.rk t a = M.ranks t a := by simp [M.rk, ea]
  have fa := M.fine_ranks ok ha aa
  have la : (M.ranks t a).length = t.houses.length := by rw [M.ranks_length]; exact (M.plan_iff.1 ha).1
  have eb : M.err t b = 0 := by simp [M.err, ok, hb, ab]
  have kb : M.rk t b = M.ranks t b := by simp [M.rk, eb]
  have fb := M.fine_ranks ok hb ab
  have lb : (M.ranks t b).length = t.houses.length := by rw [M.ranks_length]; exact (M.plan_iff.1 hb).1
  have eq : M.err t q = 7 := by simp [M.err, ok, hq, naq]
  have kq : M.rk t q = [] := by simp [M.rk, eq]
  apply Ret_fin (fn := Try.f8) Try.func8 rfl
  apply T_seq
  apply T_r F
  · (simp only [go_sem, Try.ntmps8, hs, ok, hq, bne_self_eq_false, ha, hb, ea, eb, ka, kb, fa, fb, eq, kq]) <;> exact rfl
  apply K_seq
  apply T_seq
  apply T_seq
  apply T_wL F [0, 1, 2, 3, 4, 5, 6, 7, 8, 9, 10, 11, 12, 13] rfl
  apply W_pre [0] [1, 2, 3, 4, 5, 6, 7, 8, 9, 10, 11, 12, 13]
  · (simp only [go_sem, Try.ntmps8, hs, ok, hq, bne_self_eq_false, ha, hb, ea, eb, ka, kb, fa, fb, eq, kq]) <;> exact rfl
  apply W_call -- call 0 of function 12
  · (simp only [go_sem, Try.ntmps8, hs, ok, hq, bne_self_eq_false, ha, hb, ea, eb, ka, kb, fa, fb, eq, kq]) <;> exact rfl
  · (simp only [go_sem, Try.ntmps8, hs, ok, hq, bne_self_eq_false, ha, hb, ea, eb, ka, kb, fa, fb, eq, kq]) <;> exact rfl
  · exact rfl
  · (simp only [go_sem, Try.ntmps8, hs, ok, hq, bne_self_eq_false, ha, hb, ea, eb, ka, kb, fa, fb, eq, kq]) <;> exact rfl
  · (simp only [go_sem, Try.ntmps8, hs, ok, hq, bne_self_eq_false, ha, hb, ea, eb, ka, kb, fa, fb, eq, kq]) <;> exact rfl
  · exact ⟨_, Try.func12, rfl, rfl⟩
  · (simp only [go_sem, Try.ntmps8, hs, ok, hq, bne_self_eq_false, ha, hb, ea, eb, ka, kb, fa, fb, eq, kq]) <;> exact rfl
  · (simp only [go_sem, Try.ntmps8, hs, ok, hq, bne_self_eq_false, ha, hb, ea, eb, ka, kb, fa, fb, eq, kq]) <;> exact rfl
  · exact law_short _
  apply W_pre [2, 3, 4] [5, 6, 7, 8, 9, 10, 11, 12, 13]
  · (simp only [go_sem, Try.ntmps8, hs, ok, hq, bne_self_eq_false, ha, hb, ea, eb, ka, kb, fa, fb, eq, kq]) <;> exact rfl
  apply W_call -- call 1 of function 13
  · (simp only [go_sem, Try.ntmps8, hs, ok, hq, bne_self_eq_false, ha, hb, ea, eb, ka, kb, fa, fb, eq, kq]) <;> exact rfl
  · (simp only [go_sem, Try.ntmps8, hs, ok, hq, bne_self_eq_false, ha, hb, ea, eb, ka, kb, fa, fb, eq, kq]) <;> exact rfl
  · exact rfl
  · (simp only [go_sem, Try.ntmps8, hs, ok, hq, bne_self_eq_false, ha, hb, ea, eb, ka, kb, fa, fb, eq, kq]) <;> exact rfl
  · (simp only [go_sem, Try.ntmps8, hs, ok, hq, bne_self_eq_false, ha, hb, ea, eb, ka, kb, fa, fb, eq, kq]) <;> exact rfl
  · exact ⟨_, Try.func13, rfl, rfl⟩
  · (simp only [go_sem, Try.ntmps8, hs, ok, hq, bne_self_eq_false, ha, hb, ea, eb, ka, kb, fa, fb, eq, kq]) <;> exact rfl
  · (simp only [go_sem, Try.ntmps8, hs, ok, hq, bne_self_eq_false, ha, hb, ea, eb, ka, kb, fa, fb, eq, kq]) <;> exact rfl
  · exact ref_town _
  apply W_pre [6, 7, 8, 9, 10] [11, 12, 13]
  · (simp only [go_sem, Try.ntmps8, hs, ok, hq, bne_self_eq_false, ha, hb, ea, eb, ka, kb, fa, fb, eq, kq]) <;> exact rfl
  apply W_call -- call 2 of function 14
  · (simp only [go_sem, Try.ntmps8, hs, ok, hq, bne_self_eq_false, ha, hb, ea, eb, ka, kb, fa, fb, eq, kq]) <;> exact rfl
  · (simp only [go_sem, Try.ntmps8, hs, ok, hq, bne_self_eq_false, ha, hb, ea, eb, ka, kb, fa, fb, eq, kq]) <;> exact rfl
  · exact rfl
  · (simp only [go_sem, Try.ntmps8, hs, ok, hq, bne_self_eq_false, ha, hb, ea, eb, ka, kb, fa, fb, eq, kq]) <;> exact rfl
  · (simp only [go_sem, Try.ntmps8, hs, ok, hq, bne_self_eq_false, ha, hb, ea, eb, ka, kb, fa, fb, eq, kq]) <;> exact rfl
  · exact ⟨_, Try.func14, rfl, rfl⟩
  · (simp only [go_sem, Try.ntmps8, hs, ok, hq, bne_self_eq_false, ha, hb, ea, eb, ka, kb, fa, fb, eq, kq]) <;> exact rfl
  · (simp only [go_sem, Try.ntmps8, hs, ok, hq, bne_self_eq_false, ha, hb, ea, eb, ka, kb, fa, fb, eq, kq]) <;> exact rfl
  · exact ref_plan _ _
  apply W_run
  · (simp only [go_sem, Try.ntmps8, hs, ok, hq, bne_self_eq_false, ha, hb, ea, eb, ka, kb, fa, fb, eq, kq]) <;> exact rfl
  apply W_nil
  apply K_seq
  apply T_ifF -- h0
  · (simp only [go_sem, Try.ntmps8, hs, ok, hq, bne_self_eq_false, ha, hb, ea, eb, ka, kb, fa, fb, eq, kq]) <;> exact rfl
  apply T_skip
  apply K_seq
  apply T_seq
  apply T_wL F [0, 1, 2, 3, 4, 5, 6, 7, 8] rfl
  apply W_pre [0] [1, 2, 3, 4, 5, 6, 7, 8]
  · (simp only [go_sem, Try.ntmps8, hs, ok, hq, bne_self_eq_false, ha, hb, ea, eb, ka, kb, fa, fb, eq, kq]) <;> exact rfl
  apply W_call -- call 3 of function 26
  · (simp only [go_sem, Try.ntmps8, hs, ok, hq, bne_self_eq_false, ha, hb, ea, eb, ka, kb, fa, fb, eq, kq]) <;> exact rfl
  · (simp only [go_sem, Try.ntmps8, hs, ok, hq, bne_self_eq_false, ha, hb, ea, eb, ka, kb, fa, fb, eq, kq]) <;> exact rfl
  · exact rfl
  · (simp only [go_sem, Try.ntmps8, hs, ok, hq, bne_self_eq_false, ha, hb, ea, eb, ka, kb, fa, fb, eq, kq]) <;> exact rfl
  · (simp only [go_sem, Try.ntmps8, hs, ok, hq, bne_self_eq_false, ha, hb, ea, eb, ka, kb, fa, fb, eq, kq]) <;> exact rfl
  · exact ⟨_, Try.func26, rfl, rfl⟩
  · (simp only [go_sem, Try.ntmps8, hs, ok, hq, bne_self_eq_false, ha, hb, ea, eb, ka, kb, fa, fb, eq, kq]) <;> exact rfl
  · (simp only [go_sem, Try.ntmps8, hs, ok, hq, bne_self_eq_false, ha, hb, ea, eb, ka, kb, fa, fb, eq, kq]) <;> exact rfl
  · exact mv_BestC t hh ok a _ hBest
  apply W_pre [2, 3, 4, 5] [6, 7, 8]
  · (simp only [go_sem, Try.ntmps8, hs, ok, hq, bne_self_eq_false, ha, hb, ea, eb, ka, kb, fa, fb, eq, kq]) <;> exact rfl
  apply W_run
  · (simp only [go_sem, Try.ntmps8, hs, ok, hq, bne_self_eq_false, ha, hb, ea, eb, ka, kb, fa, fb, eq, kq]) <;> exact rfl
  apply W_nil
  apply K_seq
  apply T_seq
  apply T_wL F [0, 1, 2, 3, 4, 5, 6, 7, 8] rfl
  apply W_pre [0] [1, 2, 3, 4, 5, 6, 7, 8]
  · (simp only [go_sem, Try.ntmps8, hs, ok, hq, bne_self_eq_false, ha, hb, ea, eb, ka, kb, fa, fb, eq, kq]) <;> exact rfl
  apply W_call -- call 4 of function 27
  · (simp only [go_sem, Try.ntmps8, hs, ok, hq, bne_self_eq_false, ha, hb, ea, eb, ka, kb, fa, fb, eq, kq]) <;> exact rfl
  · (simp only [go_sem, Try.ntmps8, hs, ok, hq, bne_self_eq_false, ha, hb, ea, eb, ka, kb, fa, fb, eq, kq]) <;> exact rfl
  · exact rfl
  · (simp only [go_sem, Try.ntmps8, hs, ok, hq, bne_self_eq_false, ha, hb, ea, eb, ka, kb, fa, fb, eq, kq]) <;> exact rfl
  · (simp only [go_sem, Try.ntmps8, hs, ok, hq, bne_self_eq_false, ha, hb, ea, eb, ka, kb, fa, fb, eq, kq]) <;> exact rfl
  · exact ⟨_, Try.func27, rfl, rfl⟩
  · (simp only [go_sem, Try.ntmps8, hs, ok, hq, bne_self_eq_false, ha, hb, ea, eb, ka, kb, fa, fb, eq, kq]) <;> exact rfl
  · (simp only [go_sem, Try.ntmps8, hs, ok, hq, bne_self_eq_false, ha, hb, ea, eb, ka, kb, fa, fb, eq, kq]) <;> exact rfl
  · exact mv_FairestC t hh ok b _ hFair
  apply W_pre [2, 3, 4, 5] [6, 7, 8]
  · (simp only [go_sem, Try.ntmps8, hs, ok, hq, bne_self_eq_false, ha, hb, ea, eb, ka, kb, fa, fb, eq, kq]) <;> exact rfl
  apply W_run
  · (simp only [go_sem, Try.ntmps8, hs, ok, hq, bne_self_eq_false, ha, hb, ea, eb, ka, kb, fa, fb, eq, kq]) <;> exact rfl
  apply W_nil
  apply K_seq
  apply T_seq
  apply T_wL F [0, 1, 2, 3, 4, 5, 6, 7] rfl
  apply W_pre [0, 1] [2, 3, 4, 5, 6, 7]
  · (simp only [go_sem, Try.ntmps8, hs, ok, hq, bne_self_eq_false, ha, hb, ea, eb, ka, kb, fa, fb, eq, kq]) <;> exact rfl
  apply W_call -- call 5 of function 34
  · (simp only [go_sem, Try.ntmps8, hs, ok, hq, bne_self_eq_false, ha, hb, ea, eb, ka, kb, fa, fb, eq, kq]) <;> exact rfl
  · (simp only [go_sem, Try.ntmps8, hs, ok, hq, bne_self_eq_false, ha, hb, ea, eb, ka, kb, fa, fb, eq, kq]) <;> exact rfl
  · exact rfl
  · (simp only [go_sem, Try.ntmps8, hs, ok, hq, bne_self_eq_false, ha, hb, ea, eb, ka, kb, fa, fb, eq, kq]) <;> exact rfl
  · (simp only [go_sem, Try.ntmps8, hs, ok, hq, bne_self_eq_false, ha, hb, ea, eb, ka, kb, fa, fb, eq, kq]) <;> exact rfl
  · exact ⟨_, Try.func34, rfl, rfl⟩
  · (simp only [go_sem, Try.ntmps8, hs, ok, hq, bne_self_eq_false, ha, hb, ea, eb, ka, kb, fa, fb, eq, kq]) <;> exact rfl
  · (simp only [go_sem, Try.ntmps8, hs, ok, hq, bne_self_eq_false, ha, hb, ea, eb, ka, kb, fa, fb, eq, kq]) <;> exact rfl
  · exact mv_RanksAll (by omega)
  apply W_run
  · (simp only [go_sem, Try.ntmps8, hs, ok, hq, bne_self_eq_false, ha, hb, ea, eb, ka, kb, fa, fb, eq, kq]) <;> exact rfl
  apply W_nil
  apply K_seq
  apply T_seq
  apply T_seq
  apply T_r F
  · (simp only [go_sem, Try.ntmps8, hs, ok, hq, bne_self_eq_false, ha, hb, ea, eb, ka, kb, fa, fb, eq, kq]) <;> exact rfl
  apply K_seq
  apply T_ifF -- h1
  · (simp only [go_sem, Try.ntmps8, hs, ok, hq, bne_self_eq_false, ha, hb, ea, eb, ka, kb, fa, fb, eq, kq]) <;> exact rfl
  apply T_skip
  apply K_seq
  apply T_seq
  apply T_seq
  apply T_wL F [0, 1, 2, 3, 4, 5, 6, 7, 8, 9, 10, 11, 12, 13] rfl
  apply W_pre [0, 1, 2, 3, 4] [5, 6, 7, 8, 9, 10, 11, 12, 13]
  · (simp only [go_sem, Try.ntmps8, hs, ok, hq, bne_self_eq_false, ha, hb, ea, eb, ka, kb, fa, fb, eq, kq]) <;> exact rfl
  apply W_call -- call 6 of function 14
  · (simp only [go_sem, Try.ntmps8, hs, ok, hq, bne_self_eq_false, ha, hb, ea, eb, ka, kb, fa, fb, eq, kq]) <;> exact rfl
  · (simp only [go_sem, Try.ntmps8, hs, ok, hq, bne_self_eq_false, ha, hb, ea, eb, ka, kb, fa, fb, eq, kq]) <;> exact rfl
  · exact rfl
  · (simp only [go_sem, Try.ntmps8, hs, ok, hq, bne_self_eq_false, ha, hb, ea, eb, ka, kb, fa, fb, eq, kq]) <;> exact rfl
  · (simp only [go_sem, Try.ntmps8, hs, ok, hq, bne_self_eq_false, ha, hb, ea, eb, ka, kb, fa, fb, eq, kq]) <;> exact rfl
  · exact ⟨_, Try.func14, rfl, rfl⟩
  · (simp only [go_sem, Try.ntmps8, hs, ok, hq, bne_self_eq_false, ha, hb, ea, eb, ka, kb, fa, fb, eq, kq]) <;> exact rfl
  · (simp only [go_sem, Try.ntmps8, hs, ok, hq, bne_self_eq_false, ha, hb, ea, eb, ka, kb, fa, fb, eq, kq]) <;> exact rfl
  · exact ref_plan _ _
  apply W_pre [6, 7, 8, 9, 10] [11, 12, 13]
  · (simp only [go_sem, Try.ntmps8, hs, ok, hq, bne_self_eq_false, ha, hb, ea, eb, ka, kb, fa, fb, eq, kq]) <;> exact rfl
  apply W_call -- call 7 of function 14
  · (simp only [go_sem, Try.ntmps8, hs, ok, hq, bne_self_eq_false, ha, hb, ea, eb, ka, kb, fa, fb, eq, kq]) <;> exact rfl
  · (simp only [go_sem, Try.ntmps8, hs, ok, hq, bne_self_eq_false, ha, hb, ea, eb, ka, kb, fa, fb, eq, kq]) <;> exact rfl
  · exact rfl
  · (simp only [go_sem, Try.ntmps8, hs, ok, hq, bne_self_eq_false, ha, hb, ea, eb, ka, kb, fa, fb, eq, kq]) <;> exact rfl
  · (simp only [go_sem, Try.ntmps8, hs, ok, hq, bne_self_eq_false, ha, hb, ea, eb, ka, kb, fa, fb, eq, kq]) <;> exact rfl
  · exact ⟨_, Try.func14, rfl, rfl⟩
  · (simp only [go_sem, Try.ntmps8, hs, ok, hq, bne_self_eq_false, ha, hb, ea, eb, ka, kb, fa, fb, eq, kq]) <;> exact rfl
  · (simp only [go_sem, Try.ntmps8, hs, ok, hq, bne_self_eq_false, ha, hb, ea, eb, ka, kb, fa, fb, eq, kq]) <;> exact rfl
  · exact ref_plan _ _
  apply W_run
  · (simp only [go_sem, Try.ntmps8, hs, ok, hq, bne_self_eq_false, ha, hb, ea, eb, ka, kb, fa, fb, eq, kq]) <;> exact rfl
  apply W_nil
  apply K_seq
  apply T_ifF -- h2
  · (simp only [go_sem, Try.ntmps8, hs, ok, hq, bne_self_eq_false, ha, hb, ea, eb, ka, kb, fa, fb, eq, kq]) <;> exact rfl
  apply T_skip
  apply K_seq
  apply T_seq
  apply T_wL F [0, 1, 2, 3, 4, 5, 6, 7] rfl
  apply W_pre [0, 1] [2, 3, 4, 5, 6, 7]
  · (simp only [go_sem, Try.ntmps8, hs, ok, hq, bne_self_eq_false, ha, hb, ea, eb, ka, kb, fa, fb, eq, kq]) <;> exact rfl
  apply W_call -- call 8 of function 34
  · (simp only [go_sem, Try.ntmps8, hs, ok, hq, bne_self_eq_false, ha, hb, ea, eb, ka, kb, fa, fb, eq, kq]) <;> exact rfl
  · (simp only [go_sem, Try.ntmps8, hs, ok, hq, bne_self_eq_false, ha, hb, ea, eb, ka, kb, fa, fb, eq, kq]) <;> exact rfl
  · exact rfl
  · (simp only [go_sem, Try.ntmps8, hs, ok, hq, bne_self_eq_false, ha, hb, ea, eb, ka, kb, fa, fb, eq, kq]) <;> exact rfl
  · (simp only [go_sem, Try.ntmps8, hs, ok, hq, bne_self_eq_false, ha, hb, ea, eb, ka, kb, fa, fb, eq, kq]) <;> exact rfl
  · exact ⟨_, Try.func34, rfl, rfl⟩
  · (simp only [go_sem, Try.ntmps8, hs, ok, hq, bne_self_eq_false, ha, hb, ea, eb, ka, kb, fa, fb, eq, kq]) <;> exact rfl
  · (simp only [go_sem, Try.ntmps8, hs, ok, hq, bne_self_eq_false, ha, hb, ea, eb, ka, kb, fa, fb, eq, kq]) <;> exact rfl
  · exact mv_RanksAll (by omega)
  apply W_run
  · (simp only [go_sem, Try.ntmps8, hs, ok, hq, bne_self_eq_false, ha, hb, ea, eb, ka, kb, fa, fb, eq, kq]) <;> exact rfl
  apply W_nil
  apply K_seq
  apply T_seq
  apply T_wL F [0, 1, 2, 3, 4, 5, 6, 7] rfl
  apply W_pre [0, 1] [2, 3, 4, 5, 6, 7]
  · (simp only [go_sem, Try.ntmps8, hs, ok, hq, bne_self_eq_false, ha, hb, ea, eb, ka, kb, fa, fb, eq, kq]) <;> exact rfl
  apply W_call -- call 9 of function 34
  · (simp only [go_sem, Try.ntmps8, hs, ok, hq, bne_self_eq_false, ha, hb, ea, eb, ka, kb, fa, fb, eq, kq]) <;> exact rfl
  · (simp only [go_sem, Try.ntmps8, hs, ok, hq, bne_self_eq_false, ha, hb, ea, eb, ka, kb, fa, fb, eq, kq]) <;> exact rfl
  · exact rfl
  · (simp only [go_sem, Try.ntmps8, hs, ok, hq, bne_self_eq_false, ha, hb, ea, eb, ka, kb, fa, fb, eq, kq]) <;> exact rfl
  · (simp only [go_sem, Try.ntmps8, hs, ok, hq, bne_self_eq_false, ha, hb, ea, eb, ka, kb, fa, fb, eq, kq]) <;> exact rfl
  · exact ⟨_, Try.func34, rfl, rfl⟩
  · (simp only [go_sem, Try.ntmps8, hs, ok, hq, bne_self_eq_false, ha, hb, ea, eb, ka, kb, fa, fb, eq, kq]) <;> exact rfl
  · (simp only [go_sem, Try.ntmps8, hs, ok, hq, bne_self_eq_false, ha, hb, ea, eb, ka, kb, fa, fb, eq, kq]) <;> exact rfl
  · exact mv_RanksAll (by omega)
  apply W_run
  · (simp only [go_sem, Try.ntmps8, hs, ok, hq, bne_self_eq_false, ha, hb, ea, eb, ka, kb, fa, fb, eq, kq]) <;> exact rfl
  apply W_nil
  apply K_seq
  apply T_seq
  apply T_seq
  apply T_wL F [0, 1, 2, 3, 4, 5, 6, 7, 8, 9, 10, 11, 12, 13, 14, 15, 16, 17, 18, 19, 20, 21, 22, 23, 24, 25, 26, 27, 28, 29] rfl
  apply W_pre [0, 1, 2, 3] [4, 5, 6, 7, 8, 9, 10, 11, 12, 13, 14, 15, 16, 17, 18, 19, 20, 21, 22, 23, 24, 25, 26, 27, 28, 29]
  · (simp only [go_sem, Try.ntmps8, hs, ok, hq, bne_self_eq_false, ha, hb, ea, eb, ka, kb, fa, fb, eq, kq]) <;> exact rfl
  apply W_pre [4, 5, 6, 7, 8] [9, 10, 11, 12, 13, 14, 15, 16, 17, 18, 19, 20, 21, 22, 23, 24, 25, 26, 27, 28, 29]
  · (simp only [go_sem, Try.ntmps8, hs, ok, hq, bne_self_eq_false, ha, hb, ea, eb, ka, kb, fa, fb, eq, kq]) <;> exact rfl
  apply W_call -- call 10 of function 35
  · (simp only [go_sem, Try.ntmps8, hs, ok, hq, bne_self_eq_false, ha, hb, ea, eb, ka, kb, fa, fb, eq, kq]) <;> exact rfl
  · (simp only [go_sem, Try.ntmps8, hs, ok, hq, bne_self_eq_false, ha, hb, ea, eb, ka, kb, fa, fb, eq, kq]) <;> exact rfl
  · exact rfl
  · (simp only [go_sem, Try.ntmps8, hs, ok, hq, bne_self_eq_false, ha, hb, ea, eb, ka, kb, fa, fb, eq, kq]) <;> exact rfl
  · (simp only [go_sem, Try.ntmps8, hs, ok, hq, bne_self_eq_false, ha, hb, ea, eb, ka, kb, fa, fb, eq, kq]) <;> exact rfl
  · exact ⟨_, Try.func35, rfl, rfl⟩
  · (simp only [go_sem, Try.ntmps8, hs, ok, hq, bne_self_eq_false, ha, hb, ea, eb, ka, kb, fa, fb, eq, kq]) <;> exact rfl
  · (simp only [go_sem, Try.ntmps8, hs, ok, hq, bne_self_eq_false, ha, hb, ea, eb, ka, kb, fa, fb, eq, kq]) <;> exact rfl
  · exact law_fine _ _
  apply W_pre [10, 11, 12, 13, 14] [15, 16, 17, 18, 19, 20, 21, 22, 23, 24, 25, 26, 27, 28, 29]
  · (simp only [go_sem, Try.ntmps8, hs, ok, hq, bne_self_eq_false, ha, hb, ea, eb, ka, kb, fa, fb, eq, kq]) <;> exact rfl
  apply W_call -- call 11 of function 35
  · (simp only [go_sem, Try.ntmps8, hs, ok, hq, bne_self_eq_false, ha, hb, ea, eb, ka, kb, fa, fb, eq, kq]) <;> exact rfl
  · (simp only [go_sem, Try.ntmps8, hs, ok, hq, bne_self_eq_false, ha, hb, ea, eb, ka, kb, fa, fb, eq, kq]) <;> exact rfl
  · exact rfl
  · (simp only [go_sem, Try.ntmps8, hs, ok, hq, bne_self_eq_false, ha, hb, ea, eb, ka, kb, fa, fb, eq, kq]) <;> exact rfl
  · (simp only [go_sem, Try.ntmps8, hs, ok, hq, bne_self_eq_false, ha, hb, ea, eb, ka, kb, fa, fb, eq, kq]) <;> exact rfl
  · exact ⟨_, Try.func35, rfl, rfl⟩
  · (simp only [go_sem, Try.ntmps8, hs, ok, hq, bne_self_eq_false, ha, hb, ea, eb, ka, kb, fa, fb, eq, kq]) <;> exact rfl
  · (simp only [go_sem, Try.ntmps8, hs, ok, hq, bne_self_eq_false, ha, hb, ea, eb, ka, kb, fa, fb, eq, kq]) <;> exact rfl
  · exact law_fine _ _
  apply W_pre [16, 17, 18, 19] [20, 21, 22, 23, 24, 25, 26, 27, 28, 29]
  · (simp only [go_sem, Try.ntmps8, hs, ok, hq, bne_self_eq_false, ha, hb, ea, eb, ka, kb, fa, fb, eq, kq]) <;> exact rfl
  apply W_call -- call 12 of function 30
  · (simp only [go_sem, Try.ntmps8, hs, ok, hq, bne_self_eq_false, ha, hb, ea, eb, ka, kb, fa, fb, eq, kq]) <;> exact rfl
  · (simp only [go_sem, Try.ntmps8, hs, ok, hq, bne_self_eq_false, ha, hb, ea, eb, ka, kb, fa, fb, eq, kq]) <;> exact rfl
  · exact rfl
  · (simp only [go_sem, Try.ntmps8, hs, ok, hq, bne_self_eq_false, ha, hb, ea, eb, ka, kb, fa, fb, eq, kq]) <;> exact rfl
  · (simp only [go_sem, Try.ntmps8, hs, ok, hq, bne_self_eq_false, ha, hb, ea, eb, ka, kb, fa, fb, eq, kq]) <;> exact rfl
  · exact ⟨_, Try.func30, rfl, rfl⟩
  · (simp only [go_sem, Try.ntmps8, hs, ok, hq, bne_self_eq_false, ha, hb, ea, eb, ka, kb, fa, fb, eq, kq]) <;> exact rfl
  · (simp only [go_sem, Try.ntmps8, hs, ok, hq, bne_self_eq_false, ha, hb, ea, eb, ka, kb, fa, fb, eq, kq]) <;> exact rfl
  · exact ref_sum _ (M.ranks_wide ok) (by omega)
  apply W_pre [21, 22, 23, 24, 25] [26, 27, 28, 29]
  · (simp only [go_sem, Try.ntmps8, hs, ok, hq, bne_self_eq_false, ha, hb, ea, eb, ka, kb, fa, fb, eq, kq]) <;> exact rfl
  apply W_call -- call 13 of function 32
  · (simp only [go_sem, Try.ntmps8, hs, ok, hq, bne_self_eq_false, ha, hb, ea, eb, ka, kb, fa, fb, eq, kq]) <;> exact rfl
  · (simp only [go_sem, Try.ntmps8, hs, ok, hq, bne_self_eq_false, ha, hb, ea, eb, ka, kb, fa, fb, eq, kq]) <;> exact rfl
  · exact rfl
  · (simp only [go_sem, Try.ntmps8, hs, ok, hq, bne_self_eq_false, ha, hb, ea, eb, ka, kb, fa, fb, eq, kq]) <;> exact rfl
  · (simp only [go_sem, Try.ntmps8, hs, ok, hq, bne_self_eq_false, ha, hb, ea, eb, ka, kb, fa, fb, eq, kq]) <;> exact rfl
  · exact ⟨_, Try.func32, rfl, rfl⟩
  · (simp only [go_sem, Try.ntmps8, hs, ok, hq, bne_self_eq_false, ha, hb, ea, eb, ka, kb, fa, fb, eq, kq]) <;> exact rfl
  · (simp only [go_sem, Try.ntmps8, hs, ok, hq, bne_self_eq_false, ha, hb, ea, eb, ka, kb, fa, fb, eq, kq]) <;> exact rfl
  · exact ref_most _
  apply W_run
  · (simp only [go_sem, Try.ntmps8, hs, ok, hq, bne_self_eq_false, ha, hb, ea, eb, ka, kb, fa, fb, eq, kq]) <;> exact rfl
  apply W_nil
  apply K_seq
  apply T_ifF -- h3
  · (simp only [go_sem, Try.ntmps8, hs, ok, hq, bne_self_eq_false, ha, hb, ea, eb, ka, kb, fa, fb, eq, kq]) <;> exact rfl
  apply T_skip
  apply K_seq
  apply T_seq
  apply T_seq
  apply T_r F
  · (simp only [go_sem, Try.ntmps8, hs, ok, hq, bne_self_eq_false, ha, hb, ea, eb, ka, kb, fa, fb, eq, kq]) <;> exact rfl
  apply K_seq
  apply T_ifT -- h4
  · (simp only [go_sem, Try.ntmps8, hs, ok, hq, bne_self_eq_false, ha, hb, ea, eb, ka, kb, fa, fb, eq, kq]) <;> exact rfl
  apply T_seq
  apply T_wL F [0, 1, 2, 3, 4, 5] rfl
  apply W_pre [0, 1, 2] [3, 4, 5]
  · (simp only [go_sem, Try.ntmps8, hs, ok, hq, bne_self_eq_false, ha, hb, ea, eb, ka, kb, fa, fb, eq, kq]) <;> exact rfl
  apply W_guard
  · (simp only [go_sem, Try.ntmps8, hs, ok, hq, bne_self_eq_false, ha, hb, ea, eb, ka, kb, fa, fb, eq, kq]) <;> exact rfl
  · (simp only [go_sem, Try.ntmps8, hs, ok, hq, bne_self_eq_false, ha, hb, ea, eb, ka, kb, fa, fb, eq, kq]) <;> exact rfl
  · intro bg9t
    have g9t := bg9t
    try simp only [CS] at g9t
    try simp only [BS] at bg9t
    try exact absurd bg9t (by decide)
    all_goals (
  apply W_call -- call 14 of function 16
  · (simp only [go_sem, Try.ntmps8, hs, ok, hq, bne_self_eq_false, ha, hb, ea, eb, ka, kb, fa, fb, eq, kq, bg9t]) <;> exact rfl
  · (simp only [go_sem, Try.ntmps8, hs, ok, hq, bne_self_eq_false, ha, hb, ea, eb, ka, kb, fa, fb, eq, kq, bg9t]) <;> exact rfl
  · exact rfl
  · (simp only [go_sem, Try.ntmps8, hs, ok, hq, bne_self_eq_false, ha, hb, ea, eb, ka, kb, fa, fb, eq, kq, bg9t]) <;> exact rfl
  · (simp only [go_sem, Try.ntmps8, hs, ok, hq, bne_self_eq_false, ha, hb, ea, eb, ka, kb, fa, fb, eq, kq, bg9t]) <;> exact rfl
  · exact ⟨_, Try.func16, rfl, rfl⟩
  · (simp only [go_sem, Try.ntmps8, hs, ok, hq, bne_self_eq_false, ha, hb, ea, eb, ka, kb, fa, fb, eq, kq, bg9t]) <;> exact rfl
  · (simp only [go_sem, Try.ntmps8, hs, ok, hq, bne_self_eq_false, ha, hb, ea, eb, ka, kb, fa, fb, eq, kq, bg9t]) <;> exact rfl
  · exact known_ok
  apply W_run
  · (simp only [go_sem, Try.ntmps8, hs, ok, hq, bne_self_eq_false, ha, hb, ea, eb, ka, kb, fa, fb, eq, kq, bg9t]) <;> exact rfl
  apply W_nil
  apply K_seq
  apply T_ret
  apply K_seqR
  apply fin_ret
  · (simp only [go_sem, Try.ntmps8, hs, ok, hq, bne_self_eq_false, ha, hb, ea, eb, ka, kb, fa, fb, eq, kq, bg9t, Try.f8]) <;> exact rfl
  -- leaf 0 (ret)
  
  all_goals rfl)
  · intro bg9f
    have g9f := bg9f
    try simp only [CS] at g9f
    try simp only [BS] at bg9f
    try exact absurd bg9f (by decide)
    all_goals (
  apply W_run
  · (simp only [go_sem, Try.ntmps8, hs, ok, hq, bne_self_eq_false, ha, hb, ea, eb, ka, kb, fa, fb, eq, kq, bg9f]) <;> exact rfl
  apply W_nil
  apply K_seq
  apply T_ret
  apply K_seqR
  apply fin_ret
  · (simp only [go_sem, Try.ntmps8, hs, ok, hq, bne_self_eq_false, ha, hb, ea, eb, ka, kb, fa, fb, eq, kq, bg9f, Try.f8]) <;> exact rfl
  -- leaf 1 (ret)
  
  all_goals rfl)

theorem law_rivalsF (t : Town) (q a b : List Int) (hs : M.Short t) (ok : M.Ok t) (hq : M.plan t q = true) (hBest : M.least (fun p => (M.sum (M.ranks t p), 0)) (M.plans t) = some (a, (M.sum (M.ranks t a), 0))) (ha : M.plan t a = true) (aa : M.allowed t a = true) (bB : ∀ q, M.plan t q = true → M.allowed t q = true → ¬ M.sum (M.ranks t q) < M.sum (M.ranks t a) ∧ (M.sum (M.ranks t q) = M.sum (M.ranks t a) → M.before q a = false)) (hFair : M.least (fun p => (M.most (M.ranks t p), M.sum (M.ranks t p))) (M.plans t) = some (b, (M.most (M.ranks t b), M.sum (M.ranks t b)))) (hb : M.plan t b = true) (ab : M.allowed t b = true) (bF : ∀ q, M.plan t q = true → M.allowed t q = true → M.most (M.ranks t b) ≤ M.most (M.ranks t q) ∧ (M.most (M.ranks t q) = M.most (M.ranks t b) → M.sum (M.ranks t b) ≤ M.sum (M.ranks t q) ∧ (M.sum (M.ranks t q) = M.sum (M.ranks t b) → M.before q b = false))) (aq : M.allowed t q = true) (he : M.sum (M.ranks t q) = M.sum (M.ranks t a)) (hm : M.most (M.ranks t b) < M.most (M.ranks t q))  : Ret Try.prog 8 [.agg (cT t), .sl 1 (rI q)] (.bool true) := by
  have hh : t.houses.length ≤ 1000 := by have := hs.2.2.2.2.2.1; omega
  have ea : M.err t a = 0 := by simp [M.err, ok, ha, aa]
  have ka : M.rk t a = M.ranks t a := by simp [M.rk, ea]
  have fa := M.fine_ranks ok ha aa
  have la : (M.ranks t a).length = t.houses.length := by rw [M.ranks_length]; exact (M.plan_iff.1 ha).1
  have eb : M.err t b = 0 := by simp [M.err, ok, hb, ab]
  have kb : M.rk t b = M.ranks t b := by simp [M.rk, eb]
  have fb := M.fine_ranks ok hb ab
  have lb : (M.ranks t b).length = t.houses.length := by rw [M.ranks_length]; exact (M.plan_iff.1 hb).1
  have eq : M.err t q = 0 := by simp [M.err, ok, hq, aq]
  have kq : M.rk t q = M.ranks t q := by simp [M.rk, eq]
  have fq := M.fine_ranks ok hq aq
  have lq : (M.ranks t q).length = t.houses.length := by rw [M.ranks_length]; exact (M.plan_iff.1 hq).1
  obtain ⟨q1, q2⟩ := bB q hq aq
  obtain ⟨q4, q5⟩ := bF q hq aq
  have he1 : (M.sum (M.ranks t q) == M.sum (M.ranks t a)) = true := by simpa using he
  have q6 := q2 he
  apply Ret_fin (fn := Try.f8) Try.func8 rfl
  apply T_seq
  apply T_r F
  · (simp only [go_sem, Try.ntmps8, hs, ok, hq, bne_self_eq_false, ha, hb, ea, eb, ka, kb, fa, fb, eq, kq, fq, q1, q4, he1, q6, hm]) <;> exact rfl
  apply K_seq
  apply T_seq
  apply T_seq
  apply T_wL F [0, 1, 2, 3, 4, 5, 6, 7, 8, 9, 10, 11, 12, 13] rfl
  apply W_pre [0] [1, 2, 3, 4, 5, 6, 7, 8, 9, 10, 11, 12, 13]
  · (simp only [go_sem, Try.ntmps8, hs, ok, hq, bne_self_eq_false, ha, hb, ea, eb, ka, kb, fa, fb, eq, kq, fq, q1, q4, he1, q6, hm]) <;> exact rfl
  apply W_call -- call 0 of function 12
  · (simp only [go_sem, Try.ntmps8, hs, ok, hq, bne_self_eq_false, ha, hb, ea, eb, ka, kb, fa, fb, eq, kq, fq, q1, q4, he1, q6, hm]) <;> exact rfl
  · (simp only [go_sem, Try.ntmps8, hs, ok, hq, bne_self_eq_false, ha, hb, ea, eb, ka, kb, fa, fb, eq, kq, fq, q1, q4, he1, q6, hm]) <;> exact rfl
  · exact rfl
  · (simp only [go_sem, Try.ntmps8, hs, ok, hq, bne_self_eq_false, ha, hb, ea, eb, ka, kb, fa, fb, eq, kq, fq, q1, q4, he1, q6, hm]) <;> exact rfl
  · (simp only [go_sem, Try.ntmps8, hs, ok, hq, bne_self_eq_false, ha, hb, ea, eb, ka, kb, fa, fb, eq, kq, fq, q1, q4, he1, q6, hm]) <;> exact rfl
  · exact ⟨_, Try.func12, rfl, rfl⟩
  · (simp only [go_sem, Try.ntmps8, hs, ok, hq, bne_self_eq_false, ha, hb, ea, eb, ka, kb, fa, fb, eq, kq, fq, q1, q4, he1, q6, hm]) <;> exact rfl
  · (simp only [go_sem, Try.ntmps8, hs, ok, hq, bne_self_eq_false, ha, hb, ea, eb, ka, kb, fa, fb, eq, kq, fq, q1, q4, he1, q6, hm]) <;> exact rfl
  · exact law_short _
  apply W_pre [2, 3, 4] [5, 6, 7, 8, 9, 10, 11, 12, 13]
  · (simp only [go_sem, Try.ntmps8, hs, ok, hq, bne_self_eq_false, ha, hb, ea, eb, ka, kb, fa, fb, eq, kq, fq, q1, q4, he1, q6, hm]) <;> exact rfl
  apply W_call -- call 1 of function 13
  · (simp only [go_sem, Try.ntmps8, hs, ok, hq, bne_self_eq_false, ha, hb, ea, eb, ka, kb, fa, fb, eq, kq, fq, q1, q4, he1, q6, hm]) <;> exact rfl
  · (simp only [go_sem, Try.ntmps8, hs, ok, hq, bne_self_eq_false, ha, hb, ea, eb, ka, kb, fa, fb, eq, kq, fq, q1, q4, he1, q6, hm]) <;> exact rfl
  · exact rfl
  · (simp only [go_sem, Try.ntmps8, hs, ok, hq, bne_self_eq_false, ha, hb, ea, eb, ka, kb, fa, fb, eq, kq, fq, q1, q4, he1, q6, hm]) <;> exact rfl
  · (simp only [go_sem, Try.ntmps8, hs, ok, hq, bne_self_eq_false, ha, hb, ea, eb, ka, kb, fa, fb, eq, kq, fq, q1, q4, he1, q6, hm]) <;> exact rfl
  · exact ⟨_, Try.func13, rfl, rfl⟩
  · (simp only [go_sem, Try.ntmps8, hs, ok, hq, bne_self_eq_false, ha, hb, ea, eb, ka, kb, fa, fb, eq, kq, fq, q1, q4, he1, q6, hm]) <;> exact rfl
  · (simp only [go_sem, Try.ntmps8, hs, ok, hq, bne_self_eq_false, ha, hb, ea, eb, ka, kb, fa, fb, eq, kq, fq, q1, q4, he1, q6, hm]) <;> exact rfl
  · exact ref_town _
  apply W_pre [6, 7, 8, 9, 10] [11, 12, 13]
  · (simp only [go_sem, Try.ntmps8, hs, ok, hq, bne_self_eq_false, ha, hb, ea, eb, ka, kb, fa, fb, eq, kq, fq, q1, q4, he1, q6, hm]) <;> exact rfl
  apply W_call -- call 2 of function 14
  · (simp only [go_sem, Try.ntmps8, hs, ok, hq, bne_self_eq_false, ha, hb, ea, eb, ka, kb, fa, fb, eq, kq, fq, q1, q4, he1, q6, hm]) <;> exact rfl
  · (simp only [go_sem, Try.ntmps8, hs, ok, hq, bne_self_eq_false, ha, hb, ea, eb, ka, kb, fa, fb, eq, kq, fq, q1, q4, he1, q6, hm]) <;> exact rfl
  · exact rfl
  · (simp only [go_sem, Try.ntmps8, hs, ok, hq, bne_self_eq_false, ha, hb, ea, eb, ka, kb, fa, fb, eq, kq, fq, q1, q4, he1, q6, hm]) <;> exact rfl
  · (simp only [go_sem, Try.ntmps8, hs, ok, hq, bne_self_eq_false, ha, hb, ea, eb, ka, kb, fa, fb, eq, kq, fq, q1, q4, he1, q6, hm]) <;> exact rfl
  · exact ⟨_, Try.func14, rfl, rfl⟩
  · (simp only [go_sem, Try.ntmps8, hs, ok, hq, bne_self_eq_false, ha, hb, ea, eb, ka, kb, fa, fb, eq, kq, fq, q1, q4, he1, q6, hm]) <;> exact rfl
  · (simp only [go_sem, Try.ntmps8, hs, ok, hq, bne_self_eq_false, ha, hb, ea, eb, ka, kb, fa, fb, eq, kq, fq, q1, q4, he1, q6, hm]) <;> exact rfl
  · exact ref_plan _ _
  apply W_run
  · (simp only [go_sem, Try.ntmps8, hs, ok, hq, bne_self_eq_false, ha, hb, ea, eb, ka, kb, fa, fb, eq, kq, fq, q1, q4, he1, q6, hm]) <;> exact rfl
  apply W_nil
  apply K_seq
  apply T_ifF -- h0
  · (simp only [go_sem, Try.ntmps8, hs, ok, hq, bne_self_eq_false, ha, hb, ea, eb, ka, kb, fa, fb, eq, kq, fq, q1, q4, he1, q6, hm]) <;> exact rfl
  apply T_skip
  apply K_seq
  apply T_seq
  apply T_wL F [0, 1, 2, 3, 4, 5, 6, 7, 8] rfl
  apply W_pre [0] [1, 2, 3, 4, 5, 6, 7, 8]
  · (simp only [go_sem, Try.ntmps8, hs, ok, hq, bne_self_eq_false, ha, hb, ea, eb, ka, kb, fa, fb, eq, kq, fq, q1, q4, he1, q6, hm]) <;> exact rfl
  apply W_call -- call 3 of function 26
  · (simp only [go_sem, Try.ntmps8, hs, ok, hq, bne_self_eq_false, ha, hb, ea, eb, ka, kb, fa, fb, eq, kq, fq, q1, q4, he1, q6, hm]) <;> exact rfl
  · (simp only [go_sem, Try.ntmps8, hs, ok, hq, bne_self_eq_false, ha, hb, ea, eb, ka, kb, fa, fb, eq, kq, fq, q1, q4, he1, q6, hm]) <;> exact rfl
  · exact rfl
  · (simp only [go_sem, Try.ntmps8, hs, ok, hq, bne_self_eq_false, ha, hb, ea, eb, ka, kb, fa, fb, eq, kq, fq, q1, q4, he1, q6, hm]) <;> exact rfl
  · (simp only [go_sem, Try.ntmps8, hs, ok, hq, bne_self_eq_false, ha, hb, ea, eb, ka, kb, fa, fb, eq, kq, fq, q1, q4, he1, q6, hm]) <;> exact rfl
  · exact ⟨_, Try.func26, rfl, rfl⟩
  · (simp only [go_sem, Try.ntmps8, hs, ok, hq, bne_self_eq_false, ha, hb, ea, eb, ka, kb, fa, fb, eq, kq, fq, q1, q4, he1, q6, hm]) <;> exact rfl
  · (simp only [go_sem, Try.ntmps8, hs, ok, hq, bne_self_eq_false, ha, hb, ea, eb, ka, kb, fa, fb, eq, kq, fq, q1, q4, he1, q6, hm]) <;> exact rfl
  · exact mv_BestC t hh ok a _ hBest
  apply W_pre [2, 3, 4, 5] [6, 7, 8]
  · (simp only [go_sem, Try.ntmps8, hs, ok, hq, bne_self_eq_false, ha, hb, ea, eb, ka, kb, fa, fb, eq, kq, fq, q1, q4, he1, q6, hm]) <;> exact rfl
  apply W_run
  · (simp only [go_sem, Try.ntmps8, hs, ok, hq, bne_self_eq_false, ha, hb, ea, eb, ka, kb, fa, fb, eq, kq, fq, q1, q4, he1, q6, hm]) <;> exact rfl
  apply W_nil
  apply K_seq
  apply T_seq
  apply T_wL F [0, 1, 2, 3, 4, 5, 6, 7, 8] rfl
  apply W_pre [0] [1, 2, 3, 4, 5, 6, 7, 8]
  · (simp only [go_sem, Try.ntmps8, hs, ok, hq, bne_self_eq_false, ha, hb, ea, eb, ka, kb, fa, fb, eq, kq, fq, q1, q4, he1, q6, hm]) <;> exact rfl
  apply W_call -- call 4 of function 27
  · (simp only [go_sem, Try.ntmps8, hs, ok, hq, bne_self_eq_false, ha, hb, ea, eb, ka, kb, fa, fb, eq, kq, fq, q1, q4, he1, q6, hm]) <;> exact rfl
  · (simp only [go_sem, Try.ntmps8, hs, ok, hq, bne_self_eq_false, ha, hb, ea, eb, ka, kb, fa, fb, eq, kq, fq, q1, q4, he1, q6, hm]) <;> exact rfl
  · exact rfl
  · (simp only [go_sem, Try.ntmps8, hs, ok, hq, bne_self_eq_false, ha, hb, ea, eb, ka, kb, fa, fb, eq, kq, fq, q1, q4, he1, q6, hm]) <;> exact rfl
  · (simp only [go_sem, Try.ntmps8, hs, ok, hq, bne_self_eq_false, ha, hb, ea, eb, ka, kb, fa, fb, eq, kq, fq, q1, q4, he1, q6, hm]) <;> exact rfl
  · exact ⟨_, Try.func27, rfl, rfl⟩
  · (simp only [go_sem, Try.ntmps8, hs, ok, hq, bne_self_eq_false, ha, hb, ea, eb, ka, kb, fa, fb, eq, kq, fq, q1, q4, he1, q6, hm]) <;> exact rfl
  · (simp only [go_sem, Try.ntmps8, hs, ok, hq, bne_self_eq_false, ha, hb, ea, eb, ka, kb, fa, fb, eq, kq, fq, q1, q4, he1, q6, hm]) <;> exact rfl
  · exact mv_FairestC t hh ok b _ hFair
  apply W_pre [2, 3, 4, 5] [6, 7, 8]
  · (simp only [go_sem, Try.ntmps8, hs, ok, hq, bne_self_eq_false, ha, hb, ea, eb, ka, kb, fa, fb, eq, kq, fq, q1, q4, he1, q6, hm]) <;> exact rfl
  apply W_run
  · (simp only [go_sem, Try.ntmps8, hs, ok, hq, bne_self_eq_false, ha, hb, ea, eb, ka, kb, fa, fb, eq, kq, fq, q1, q4, he1, q6, hm]) <;> exact rfl
  apply W_nil
  apply K_seq
  apply T_seq
  apply T_wL F [0, 1, 2, 3, 4, 5, 6, 7] rfl
  apply W_pre [0, 1] [2, 3, 4, 5, 6, 7]
  · (simp only [go_sem, Try.ntmps8, hs, ok, hq, bne_self_eq_false, ha, hb, ea, eb, ka, kb, fa, fb, eq, kq, fq, q1, q4, he1, q6, hm]) <;> exact rfl
  apply W_call -- call 5 of function 34
  · (simp only [go_sem, Try.ntmps8, hs, ok, hq, bne_self_eq_false, ha, hb, ea, eb, ka, kb, fa, fb, eq, kq, fq, q1, q4, he1, q6, hm]) <;> exact rfl
  · (simp only [go_sem, Try.ntmps8, hs, ok, hq, bne_self_eq_false, ha, hb, ea, eb, ka, kb, fa, fb, eq, kq, fq, q1, q4, he1, q6, hm]) <;> exact rfl
  · exact rfl
  · (simp only [go_sem, Try.ntmps8, hs, ok, hq, bne_self_eq_false, ha, hb, ea, eb, ka, kb, fa, fb, eq, kq, fq, q1, q4, he1, q6, hm]) <;> exact rfl
  · (simp only [go_sem, Try.ntmps8, hs, ok, hq, bne_self_eq_false, ha, hb, ea, eb, ka, kb, fa, fb, eq, kq, fq, q1, q4, he1, q6, hm]) <;> exact rfl
  · exact ⟨_, Try.func34, rfl, rfl⟩
  · (simp only [go_sem, Try.ntmps8, hs, ok, hq, bne_self_eq_false, ha, hb, ea, eb, ka, kb, fa, fb, eq, kq, fq, q1, q4, he1, q6, hm]) <;> exact rfl
  · (simp only [go_sem, Try.ntmps8, hs, ok, hq, bne_self_eq_false, ha, hb, ea, eb, ka, kb, fa, fb, eq, kq, fq, q1, q4, he1, q6, hm]) <;> exact rfl
  · exact mv_RanksAll (by omega)
  apply W_run
  · (simp only [go_sem, Try.ntmps8, hs, ok, hq, bne_self_eq_false, ha, hb, ea, eb, ka, kb, fa, fb, eq, kq, fq, q1, q4, he1, q6, hm]) <;> exact rfl
  apply W_nil
  apply K_seq
  apply T_seq
  apply T_seq
  apply T_r F
  · (simp only [go_sem, Try.ntmps8, hs, ok, hq, bne_self_eq_false, ha, hb, ea, eb, ka, kb, fa, fb, eq, kq, fq, q1, q4, he1, q6, hm]) <;> exact rfl
  apply K_seq
  apply T_ifF -- h1
  · (simp only [go_sem, Try.ntmps8, hs, ok, hq, bne_self_eq_false, ha, hb, ea, eb, ka, kb, fa, fb, eq, kq, fq, q1, q4, he1, q6, hm]) <;> exact rfl
  apply T_skip
  apply K_seq
  apply T_seq
  apply T_seq
  apply T_wL F [0, 1, 2, 3, 4, 5, 6, 7, 8, 9, 10, 11, 12, 13] rfl
  apply W_pre [0, 1, 2, 3, 4] [5, 6, 7, 8, 9, 10, 11, 12, 13]
  · (simp only [go_sem, Try.ntmps8, hs, ok, hq, bne_self_eq_false, ha, hb, ea, eb, ka, kb, fa, fb, eq, kq, fq, q1, q4, he1, q6, hm]) <;> exact rfl
  apply W_call -- call 6 of function 14
  · (simp only [go_sem, Try.ntmps8, hs, ok, hq, bne_self_eq_false, ha, hb, ea, eb, ka, kb, fa, fb, eq, kq, fq, q1, q4, he1, q6, hm]) <;> exact rfl
  · (simp only [go_sem, Try.ntmps8, hs, ok, hq, bne_self_eq_false, ha, hb, ea, eb, ka, kb, fa, fb, eq, kq, fq, q1, q4, he1, q6, hm]) <;> exact rfl
  · exact rfl
  · (simp only [go_sem, Try.ntmps8, hs, ok, hq, bne_self_eq_false, ha, hb, ea, eb, ka, kb, fa, fb, eq, kq, fq, q1, q4, he1, q6, hm]) <;> exact rfl
  · (simp only [go_sem, Try.ntmps8, hs, ok, hq, bne_self_eq_false, ha, hb, ea, eb, ka, kb, fa, fb, eq, kq, fq, q1, q4, he1, q6, hm]) <;> exact rfl
  · exact ⟨_, Try.func14, rfl, rfl⟩
  · (simp only [go_sem, Try.ntmps8, hs, ok, hq, bne_self_eq_false, ha, hb, ea, eb, ka, kb, fa, fb, eq, kq, fq, q1, q4, he1, q6, hm]) <;> exact rfl
  · (simp only [go_sem, Try.ntmps8, hs, ok, hq, bne_self_eq_false, ha, hb, ea, eb, ka, kb, fa, fb, eq, kq, fq, q1, q4, he1, q6, hm]) <;> exact rfl
  · exact ref_plan _ _
  apply W_pre [6, 7, 8, 9, 10] [11, 12, 13]
  · (simp only [go_sem, Try.ntmps8, hs, ok, hq, bne_self_eq_false, ha, hb, ea, eb, ka, kb, fa, fb, eq, kq, fq, q1, q4, he1, q6, hm]) <;> exact rfl
  apply W_call -- call 7 of function 14
  · (simp only [go_sem, Try.ntmps8, hs, ok, hq, bne_self_eq_false, ha, hb, ea, eb, ka, kb, fa, fb, eq, kq, fq, q1, q4, he1, q6, hm]) <;> exact rfl
  · (simp only [go_sem, Try.ntmps8, hs, ok, hq, bne_self_eq_false, ha, hb, ea, eb, ka, kb, fa, fb, eq, kq, fq, q1, q4, he1, q6, hm]) <;> exact rfl
  · exact rfl
  · (simp only [go_sem, Try.ntmps8, hs, ok, hq, bne_self_eq_false, ha, hb, ea, eb, ka, kb, fa, fb, eq, kq, fq, q1, q4, he1, q6, hm]) <;> exact rfl
  · (simp only [go_sem, Try.ntmps8, hs, ok, hq, bne_self_eq_false, ha, hb, ea, eb, ka, kb, fa, fb, eq, kq, fq, q1, q4, he1, q6, hm]) <;> exact rfl
  · exact ⟨_, Try.func14, rfl, rfl⟩
  · (simp only [go_sem, Try.ntmps8, hs, ok, hq, bne_self_eq_false, ha, hb, ea, eb, ka, kb, fa, fb, eq, kq, fq, q1, q4, he1, q6, hm]) <;> exact rfl
  · (simp only [go_sem, Try.ntmps8, hs, ok, hq, bne_self_eq_false, ha, hb, ea, eb, ka, kb, fa, fb, eq, kq, fq, q1, q4, he1, q6, hm]) <;> exact rfl
  · exact ref_plan _ _
  apply W_run
  · (simp only [go_sem, Try.ntmps8, hs, ok, hq, bne_self_eq_false, ha, hb, ea, eb, ka, kb, fa, fb, eq, kq, fq, q1, q4, he1, q6, hm]) <;> exact rfl
  apply W_nil
  apply K_seq
  apply T_ifF -- h2
  · (simp only [go_sem, Try.ntmps8, hs, ok, hq, bne_self_eq_false, ha, hb, ea, eb, ka, kb, fa, fb, eq, kq, fq, q1, q4, he1, q6, hm]) <;> exact rfl
  apply T_skip
  apply K_seq
  apply T_seq
  apply T_wL F [0, 1, 2, 3, 4, 5, 6, 7] rfl
  apply W_pre [0, 1] [2, 3, 4, 5, 6, 7]
  · (simp only [go_sem, Try.ntmps8, hs, ok, hq, bne_self_eq_false, ha, hb, ea, eb, ka, kb, fa, fb, eq, kq, fq, q1, q4, he1, q6, hm]) <;> exact rfl
  apply W_call -- call 8 of function 34
  · (simp only [go_sem, Try.ntmps8, hs, ok, hq, bne_self_eq_false, ha, hb, ea, eb, ka, kb, fa, fb, eq, kq, fq, q1, q4, he1, q6, hm]) <;> exact rfl
  · (simp only [go_sem, Try.ntmps8, hs, ok, hq, bne_self_eq_false, ha, hb, ea, eb, ka, kb, fa, fb, eq, kq, fq, q1, q4, he1, q6, hm]) <;> exact rfl
  · exact rfl
  · (simp only [go_sem, Try.ntmps8, hs, ok, hq, bne_self_eq_false, ha, hb, ea, eb, ka, kb, fa, fb, eq, kq, fq, q1, q4, he1, q6, hm]) <;> exact rfl
  · (simp only [go_sem, Try.ntmps8, hs, ok, hq, bne_self_eq_false, ha, hb, ea, eb, ka, kb, fa, fb, eq, kq, fq, q1, q4, he1, q6, hm]) <;> exact rfl
  · exact ⟨_, Try.func34, rfl, rfl⟩
  · (simp only [go_sem, Try.ntmps8, hs, ok, hq, bne_self_eq_false, ha, hb, ea, eb, ka, kb, fa, fb, eq, kq, fq, q1, q4, he1, q6, hm]) <;> exact rfl
  · (simp only [go_sem, Try.ntmps8, hs, ok, hq, bne_self_eq_false, ha, hb, ea, eb, ka, kb, fa, fb, eq, kq, fq, q1, q4, he1, q6, hm]) <;> exact rfl
  · exact mv_RanksAll (by omega)
  apply W_run
  · (simp only [go_sem, Try.ntmps8, hs, ok, hq, bne_self_eq_false, ha, hb, ea, eb, ka, kb, fa, fb, eq, kq, fq, q1, q4, he1, q6, hm]) <;> exact rfl
  apply W_nil
  apply K_seq
  apply T_seq
  apply T_wL F [0, 1, 2, 3, 4, 5, 6, 7] rfl
  apply W_pre [0, 1] [2, 3, 4, 5, 6, 7]
  · (simp only [go_sem, Try.ntmps8, hs, ok, hq, bne_self_eq_false, ha, hb, ea, eb, ka, kb, fa, fb, eq, kq, fq, q1, q4, he1, q6, hm]) <;> exact rfl
  apply W_call -- call 9 of function 34
  · (simp only [go_sem, Try.ntmps8, hs, ok, hq, bne_self_eq_false, ha, hb, ea, eb, ka, kb, fa, fb, eq, kq, fq, q1, q4, he1, q6, hm]) <;> exact rfl
  · (simp only [go_sem, Try.ntmps8, hs, ok, hq, bne_self_eq_false, ha, hb, ea, eb, ka, kb, fa, fb, eq, kq, fq, q1, q4, he1, q6, hm]) <;> exact rfl
  · exact rfl
  · (simp only [go_sem, Try.ntmps8, hs, ok, hq, bne_self_eq_false, ha, hb, ea, eb, ka, kb, fa, fb, eq, kq, fq, q1, q4, he1, q6, hm]) <;> exact rfl
  · (simp only [go_sem, Try.ntmps8, hs, ok, hq, bne_self_eq_false, ha, hb, ea, eb, ka, kb, fa, fb, eq, kq, fq, q1, q4, he1, q6, hm]) <;> exact rfl
  · exact ⟨_, Try.func34, rfl, rfl⟩
  · (simp only [go_sem, Try.ntmps8, hs, ok, hq, bne_self_eq_false, ha, hb, ea, eb, ka, kb, fa, fb, eq, kq, fq, q1, q4, he1, q6, hm]) <;> exact rfl
  · (simp only [go_sem, Try.ntmps8, hs, ok, hq, bne_self_eq_false, ha, hb, ea, eb, ka, kb, fa, fb, eq, kq, fq, q1, q4, he1, q6, hm]) <;> exact rfl
  · exact mv_RanksAll (by omega)
  apply W_run
  · (simp only [go_sem, Try.ntmps8, hs, ok, hq, bne_self_eq_false, ha, hb, ea, eb, ka, kb, fa, fb, eq, kq, fq, q1, q4, he1, q6, hm]) <;> exact rfl
  apply W_nil
  apply K_seq
  apply T_seq
  apply T_seq
  apply T_wL F [0, 1, 2, 3, 4, 5, 6, 7, 8, 9, 10, 11, 12, 13, 14, 15, 16, 17, 18, 19, 20, 21, 22, 23, 24, 25, 26, 27, 28, 29] rfl
  apply W_pre [0, 1, 2, 3] [4, 5, 6, 7, 8, 9, 10, 11, 12, 13, 14, 15, 16, 17, 18, 19, 20, 21, 22, 23, 24, 25, 26, 27, 28, 29]
  · (simp only [go_sem, Try.ntmps8, hs, ok, hq, bne_self_eq_false, ha, hb, ea, eb, ka, kb, fa, fb, eq, kq, fq, q1, q4, he1, q6, hm]) <;> exact rfl
  apply W_pre [4, 5, 6, 7, 8] [9, 10, 11, 12, 13, 14, 15, 16, 17, 18, 19, 20, 21, 22, 23, 24, 25, 26, 27, 28, 29]
  · (simp only [go_sem, Try.ntmps8, hs, ok, hq, bne_self_eq_false, ha, hb, ea, eb, ka, kb, fa, fb, eq, kq, fq, q1, q4, he1, q6, hm]) <;> exact rfl
  apply W_call -- call 10 of function 35
  · (simp only [go_sem, Try.ntmps8, hs, ok, hq, bne_self_eq_false, ha, hb, ea, eb, ka, kb, fa, fb, eq, kq, fq, q1, q4, he1, q6, hm]) <;> exact rfl
  · (simp only [go_sem, Try.ntmps8, hs, ok, hq, bne_self_eq_false, ha, hb, ea, eb, ka, kb, fa, fb, eq, kq, fq, q1, q4, he1, q6, hm]) <;> exact rfl
  · exact rfl
  · (simp only [go_sem, Try.ntmps8, hs, ok, hq, bne_self_eq_false, ha, hb, ea, eb, ka, kb, fa, fb, eq, kq, fq, q1, q4, he1, q6, hm]) <;> exact rfl
  · (simp only [go_sem, Try.ntmps8, hs, ok, hq, bne_self_eq_false, ha, hb, ea, eb, ka, kb, fa, fb, eq, kq, fq, q1, q4, he1, q6, hm]) <;> exact rfl
  · exact ⟨_, Try.func35, rfl, rfl⟩
  · (simp only [go_sem, Try.ntmps8, hs, ok, hq, bne_self_eq_false, ha, hb, ea, eb, ka, kb, fa, fb, eq, kq, fq, q1, q4, he1, q6, hm]) <;> exact rfl
  · (simp only [go_sem, Try.ntmps8, hs, ok, hq, bne_self_eq_false, ha, hb, ea, eb, ka, kb, fa, fb, eq, kq, fq, q1, q4, he1, q6, hm]) <;> exact rfl
  · exact law_fine _ _
  apply W_pre [10, 11, 12, 13, 14] [15, 16, 17, 18, 19, 20, 21, 22, 23, 24, 25, 26, 27, 28, 29]
  · (simp only [go_sem, Try.ntmps8, hs, ok, hq, bne_self_eq_false, ha, hb, ea, eb, ka, kb, fa, fb, eq, kq, fq, q1, q4, he1, q6, hm]) <;> exact rfl
  apply W_call -- call 11 of function 35
  · (simp only [go_sem, Try.ntmps8, hs, ok, hq, bne_self_eq_false, ha, hb, ea, eb, ka, kb, fa, fb, eq, kq, fq, q1, q4, he1, q6, hm]) <;> exact rfl
  · (simp only [go_sem, Try.ntmps8, hs, ok, hq, bne_self_eq_false, ha, hb, ea, eb, ka, kb, fa, fb, eq, kq, fq, q1, q4, he1, q6, hm]) <;> exact rfl
  · exact rfl
  · (simp only [go_sem, Try.ntmps8, hs, ok, hq, bne_self_eq_false, ha, hb, ea, eb, ka, kb, fa, fb, eq, kq, fq, q1, q4, he1, q6, hm]) <;> exact rfl
  · (simp only [go_sem, Try.ntmps8, hs, ok, hq, bne_self_eq_false, ha, hb, ea, eb, ka, kb, fa, fb, eq, kq, fq, q1, q4, he1, q6, hm]) <;> exact rfl
  · exact ⟨_, Try.func35, rfl, rfl⟩
  · (simp only [go_sem, Try.ntmps8, hs, ok, hq, bne_self_eq_false, ha, hb, ea, eb, ka, kb, fa, fb, eq, kq, fq, q1, q4, he1, q6, hm]) <;> exact rfl
  · (simp only [go_sem, Try.ntmps8, hs, ok, hq, bne_self_eq_false, ha, hb, ea, eb, ka, kb, fa, fb, eq, kq, fq, q1, q4, he1, q6, hm]) <;> exact rfl
  · exact law_fine _ _
  apply W_pre [16, 17, 18, 19] [20, 21, 22, 23, 24, 25, 26, 27, 28, 29]
  · (simp only [go_sem, Try.ntmps8, hs, ok, hq, bne_self_eq_false, ha, hb, ea, eb, ka, kb, fa, fb, eq, kq, fq, q1, q4, he1, q6, hm]) <;> exact rfl
  apply W_call -- call 12 of function 30
  · (simp only [go_sem, Try.ntmps8, hs, ok, hq, bne_self_eq_false, ha, hb, ea, eb, ka, kb, fa, fb, eq, kq, fq, q1, q4, he1, q6, hm]) <;> exact rfl
  · (simp only [go_sem, Try.ntmps8, hs, ok, hq, bne_self_eq_false, ha, hb, ea, eb, ka, kb, fa, fb, eq, kq, fq, q1, q4, he1, q6, hm]) <;> exact rfl
  · exact rfl
  · (simp only [go_sem, Try.ntmps8, hs, ok, hq, bne_self_eq_false, ha, hb, ea, eb, ka, kb, fa, fb, eq, kq, fq, q1, q4, he1, q6, hm]) <;> exact rfl
  · (simp only [go_sem, Try.ntmps8, hs, ok, hq, bne_self_eq_false, ha, hb, ea, eb, ka, kb, fa, fb, eq, kq, fq, q1, q4, he1, q6, hm]) <;> exact rfl
  · exact ⟨_, Try.func30, rfl, rfl⟩
  · (simp only [go_sem, Try.ntmps8, hs, ok, hq, bne_self_eq_false, ha, hb, ea, eb, ka, kb, fa, fb, eq, kq, fq, q1, q4, he1, q6, hm]) <;> exact rfl
  · (simp only [go_sem, Try.ntmps8, hs, ok, hq, bne_self_eq_false, ha, hb, ea, eb, ka, kb, fa, fb, eq, kq, fq, q1, q4, he1, q6, hm]) <;> exact rfl
  · exact ref_sum _ (M.ranks_wide ok) (by omega)
  apply W_pre [21, 22, 23, 24, 25] [26, 27, 28, 29]
  · (simp only [go_sem, Try.ntmps8, hs, ok, hq, bne_self_eq_false, ha, hb, ea, eb, ka, kb, fa, fb, eq, kq, fq, q1, q4, he1, q6, hm]) <;> exact rfl
  apply W_call -- call 13 of function 32
  · (simp only [go_sem, Try.ntmps8, hs, ok, hq, bne_self_eq_false, ha, hb, ea, eb, ka, kb, fa, fb, eq, kq, fq, q1, q4, he1, q6, hm]) <;> exact rfl
  · (simp only [go_sem, Try.ntmps8, hs, ok, hq, bne_self_eq_false, ha, hb, ea, eb, ka, kb, fa, fb, eq, kq, fq, q1, q4, he1, q6, hm]) <;> exact rfl
  · exact rfl
  · (simp only [go_sem, Try.ntmps8, hs, ok, hq, bne_self_eq_false, ha, hb, ea, eb, ka, kb, fa, fb, eq, kq, fq, q1, q4, he1, q6, hm]) <;> exact rfl
  · (simp only [go_sem, Try.ntmps8, hs, ok, hq, bne_self_eq_false, ha, hb, ea, eb, ka, kb, fa, fb, eq, kq, fq, q1, q4, he1, q6, hm]) <;> exact rfl
  · exact ⟨_, Try.func32, rfl, rfl⟩
  · (simp only [go_sem, Try.ntmps8, hs, ok, hq, bne_self_eq_false, ha, hb, ea, eb, ka, kb, fa, fb, eq, kq, fq, q1, q4, he1, q6, hm]) <;> exact rfl
  · (simp only [go_sem, Try.ntmps8, hs, ok, hq, bne_self_eq_false, ha, hb, ea, eb, ka, kb, fa, fb, eq, kq, fq, q1, q4, he1, q6, hm]) <;> exact rfl
  · exact ref_most _
  apply W_run
  · (simp only [go_sem, Try.ntmps8, hs, ok, hq, bne_self_eq_false, ha, hb, ea, eb, ka, kb, fa, fb, eq, kq, fq, q1, q4, he1, q6, hm]) <;> exact rfl
  apply W_nil
  apply K_seq
  apply T_ifF -- h3
  · (simp only [go_sem, Try.ntmps8, hs, ok, hq, bne_self_eq_false, ha, hb, ea, eb, ka, kb, fa, fb, eq, kq, fq, q1, q4, he1, q6, hm]) <;> exact rfl
  apply T_skip
  apply K_seq
  apply T_seq
  apply T_seq
  apply T_r F
  · (simp only [go_sem, Try.ntmps8, hs, ok, hq, bne_self_eq_false, ha, hb, ea, eb, ka, kb, fa, fb, eq, kq, fq, q1, q4, he1, q6, hm]) <;> exact rfl
  apply K_seq
  apply T_ifF -- h4
  · (simp only [go_sem, Try.ntmps8, hs, ok, hq, bne_self_eq_false, ha, hb, ea, eb, ka, kb, fa, fb, eq, kq, fq, q1, q4, he1, q6, hm]) <;> exact rfl
  apply T_skip
  apply K_seq
  apply T_seq
  apply T_seq
  apply T_wL F [0, 1, 2, 3] rfl
  apply W_pre [0, 1] [2, 3]
  · (simp only [go_sem, Try.ntmps8, hs, ok, hq, bne_self_eq_false, ha, hb, ea, eb, ka, kb, fa, fb, eq, kq, fq, q1, q4, he1, q6, hm]) <;> exact rfl
  apply W_call -- call 14 of function 35
  · (simp only [go_sem, Try.ntmps8, hs, ok, hq, bne_self_eq_false, ha, hb, ea, eb, ka, kb, fa, fb, eq, kq, fq, q1, q4, he1, q6, hm]) <;> exact rfl
  · (simp only [go_sem, Try.ntmps8, hs, ok, hq, bne_self_eq_false, ha, hb, ea, eb, ka, kb, fa, fb, eq, kq, fq, q1, q4, he1, q6, hm]) <;> exact rfl
  · exact rfl
  · (simp only [go_sem, Try.ntmps8, hs, ok, hq, bne_self_eq_false, ha, hb, ea, eb, ka, kb, fa, fb, eq, kq, fq, q1, q4, he1, q6, hm]) <;> exact rfl
  · (simp only [go_sem, Try.ntmps8, hs, ok, hq, bne_self_eq_false, ha, hb, ea, eb, ka, kb, fa, fb, eq, kq, fq, q1, q4, he1, q6, hm]) <;> exact rfl
  · exact ⟨_, Try.func35, rfl, rfl⟩
  · (simp only [go_sem, Try.ntmps8, hs, ok, hq, bne_self_eq_false, ha, hb, ea, eb, ka, kb, fa, fb, eq, kq, fq, q1, q4, he1, q6, hm]) <;> exact rfl
  · (simp only [go_sem, Try.ntmps8, hs, ok, hq, bne_self_eq_false, ha, hb, ea, eb, ka, kb, fa, fb, eq, kq, fq, q1, q4, he1, q6, hm]) <;> exact rfl
  · exact law_fine _ _
  apply W_run
  · (simp only [go_sem, Try.ntmps8, hs, ok, hq, bne_self_eq_false, ha, hb, ea, eb, ka, kb, fa, fb, eq, kq, fq, q1, q4, he1, q6, hm]) <;> exact rfl
  apply W_nil
  apply K_seq
  apply T_ifF -- h5
  · (simp only [go_sem, Try.ntmps8, hs, ok, hq, bne_self_eq_false, ha, hb, ea, eb, ka, kb, fa, fb, eq, kq, fq, q1, q4, he1, q6, hm]) <;> exact rfl
  apply T_skip
  apply K_seq
  apply T_seq
  apply T_wL F [0, 1, 2, 3, 4, 5] rfl
  apply W_pre [0] [1, 2, 3, 4, 5]
  · (simp only [go_sem, Try.ntmps8, hs, ok, hq, bne_self_eq_false, ha, hb, ea, eb, ka, kb, fa, fb, eq, kq, fq, q1, q4, he1, q6, hm]) <;> exact rfl
  apply W_call -- call 15 of function 30
  · (simp only [go_sem, Try.ntmps8, hs, ok, hq, bne_self_eq_false, ha, hb, ea, eb, ka, kb, fa, fb, eq, kq, fq, q1, q4, he1, q6, hm]) <;> exact rfl
  · (simp only [go_sem, Try.ntmps8, hs, ok, hq, bne_self_eq_false, ha, hb, ea, eb, ka, kb, fa, fb, eq, kq, fq, q1, q4, he1, q6, hm]) <;> exact rfl
  · exact rfl
  · (simp only [go_sem, Try.ntmps8, hs, ok, hq, bne_self_eq_false, ha, hb, ea, eb, ka, kb, fa, fb, eq, kq, fq, q1, q4, he1, q6, hm]) <;> exact rfl
  · (simp only [go_sem, Try.ntmps8, hs, ok, hq, bne_self_eq_false, ha, hb, ea, eb, ka, kb, fa, fb, eq, kq, fq, q1, q4, he1, q6, hm]) <;> exact rfl
  · exact ⟨_, Try.func30, rfl, rfl⟩
  · (simp only [go_sem, Try.ntmps8, hs, ok, hq, bne_self_eq_false, ha, hb, ea, eb, ka, kb, fa, fb, eq, kq, fq, q1, q4, he1, q6, hm]) <;> exact rfl
  · (simp only [go_sem, Try.ntmps8, hs, ok, hq, bne_self_eq_false, ha, hb, ea, eb, ka, kb, fa, fb, eq, kq, fq, q1, q4, he1, q6, hm]) <;> exact rfl
  · exact ref_sum _ (M.ranks_wide ok) (by omega)
  apply W_pre [2] [3, 4, 5]
  · (simp only [go_sem, Try.ntmps8, hs, ok, hq, bne_self_eq_false, ha, hb, ea, eb, ka, kb, fa, fb, eq, kq, fq, q1, q4, he1, q6, hm]) <;> exact rfl
  apply W_call -- call 16 of function 32
  · (simp only [go_sem, Try.ntmps8, hs, ok, hq, bne_self_eq_false, ha, hb, ea, eb, ka, kb, fa, fb, eq, kq, fq, q1, q4, he1, q6, hm]) <;> exact rfl
  · (simp only [go_sem, Try.ntmps8, hs, ok, hq, bne_self_eq_false, ha, hb, ea, eb, ka, kb, fa, fb, eq, kq, fq, q1, q4, he1, q6, hm]) <;> exact rfl
  · exact rfl
  · (simp only [go_sem, Try.ntmps8, hs, ok, hq, bne_self_eq_false, ha, hb, ea, eb, ka, kb, fa, fb, eq, kq, fq, q1, q4, he1, q6, hm]) <;> exact rfl
  · (simp only [go_sem, Try.ntmps8, hs, ok, hq, bne_self_eq_false, ha, hb, ea, eb, ka, kb, fa, fb, eq, kq, fq, q1, q4, he1, q6, hm]) <;> exact rfl
  · exact ⟨_, Try.func32, rfl, rfl⟩
  · (simp only [go_sem, Try.ntmps8, hs, ok, hq, bne_self_eq_false, ha, hb, ea, eb, ka, kb, fa, fb, eq, kq, fq, q1, q4, he1, q6, hm]) <;> exact rfl
  · (simp only [go_sem, Try.ntmps8, hs, ok, hq, bne_self_eq_false, ha, hb, ea, eb, ka, kb, fa, fb, eq, kq, fq, q1, q4, he1, q6, hm]) <;> exact rfl
  · exact ref_most _
  apply W_run
  · (simp only [go_sem, Try.ntmps8, hs, ok, hq, bne_self_eq_false, ha, hb, ea, eb, ka, kb, fa, fb, eq, kq, fq, q1, q4, he1, q6, hm]) <;> exact rfl
  apply W_nil
  apply K_seq
  apply T_seq
  apply T_seq
  apply T_wL F [0, 1, 2, 3, 4, 5, 6, 7, 8, 9, 10, 11, 12] rfl
  apply W_pre [0, 1, 2, 3] [4, 5, 6, 7, 8, 9, 10, 11, 12]
  · (simp only [go_sem, Try.ntmps8, hs, ok, hq, bne_self_eq_false, ha, hb, ea, eb, ka, kb, fa, fb, eq, kq, fq, q1, q4, he1, q6, hm]) <;> exact rfl
  apply W_pre [4, 5, 6, 7, 8, 9] [10, 11, 12]
  · (simp only [go_sem, Try.ntmps8, hs, ok, hq, bne_self_eq_false, ha, hb, ea, eb, ka, kb, fa, fb, eq, kq, fq, q1, q4, he1, q6, hm]) <;> exact rfl
  apply W_call -- call 17 of function 25
  · (simp only [go_sem, Try.ntmps8, hs, ok, hq, bne_self_eq_false, ha, hb, ea, eb, ka, kb, fa, fb, eq, kq, fq, q1, q4, he1, q6, hm]) <;> exact rfl
  · (simp only [go_sem, Try.ntmps8, hs, ok, hq, bne_self_eq_false, ha, hb, ea, eb, ka, kb, fa, fb, eq, kq, fq, q1, q4, he1, q6, hm]) <;> exact rfl
  · exact rfl
  · (simp only [go_sem, Try.ntmps8, hs, ok, hq, bne_self_eq_false, ha, hb, ea, eb, ka, kb, fa, fb, eq, kq, fq, q1, q4, he1, q6, hm]) <;> exact rfl
  · (simp only [go_sem, Try.ntmps8, hs, ok, hq, bne_self_eq_false, ha, hb, ea, eb, ka, kb, fa, fb, eq, kq, fq, q1, q4, he1, q6, hm]) <;> exact rfl
  · exact ⟨_, Try.func25, rfl, rfl⟩
  · (simp only [go_sem, Try.ntmps8, hs, ok, hq, bne_self_eq_false, ha, hb, ea, eb, ka, kb, fa, fb, eq, kq, fq, q1, q4, he1, q6, hm]) <;> exact rfl
  · (simp only [go_sem, Try.ntmps8, hs, ok, hq, bne_self_eq_false, ha, hb, ea, eb, ka, kb, fa, fb, eq, kq, fq, q1, q4, he1, q6, hm]) <;> exact rfl
  · exact ref_before _ _
  apply W_run
  · (simp only [go_sem, Try.ntmps8, hs, ok, hq, bne_self_eq_false, ha, hb, ea, eb, ka, kb, fa, fb, eq, kq, fq, q1, q4, he1, q6, hm]) <;> exact rfl
  apply W_nil
  apply K_seq
  apply T_ifF -- h6
  · (simp only [go_sem, Try.ntmps8, hs, ok, hq, bne_self_eq_false, ha, hb, ea, eb, ka, kb, fa, fb, eq, kq, fq, q1, q4, he1, q6, hm]) <;> exact rfl
  apply T_skip
  apply K_seq
  apply T_seq
  apply T_wL F [0, 1, 2, 3, 4, 5, 6, 7, 8, 9, 10, 11, 12, 13, 14, 15, 16, 17, 18, 19, 20, 21, 22, 23, 24, 25, 26, 27, 28, 29, 30, 31, 32, 33, 34] rfl
  apply W_pre [0, 1, 2, 3] [4, 5, 6, 7, 8, 9, 10, 11, 12, 13, 14, 15, 16, 17, 18, 19, 20, 21, 22, 23, 24, 25, 26, 27, 28, 29, 30, 31, 32, 33, 34]
  · (simp only [go_sem, Try.ntmps8, hs, ok, hq, bne_self_eq_false, ha, hb, ea, eb, ka, kb, fa, fb, eq, kq, fq, q1, q4, he1, q6, hm]) <;> exact rfl
  apply W_pre [4, 5, 6, 7] [8, 9, 10, 11, 12, 13, 14, 15, 16, 17, 18, 19, 20, 21, 22, 23, 24, 25, 26, 27, 28, 29, 30, 31, 32, 33, 34]
  · (simp only [go_sem, Try.ntmps8, hs, ok, hq, bne_self_eq_false, ha, hb, ea, eb, ka, kb, fa, fb, eq, kq, fq, q1, q4, he1, q6, hm]) <;> exact rfl
  apply W_pre [8, 9, 10, 11] [12, 13, 14, 15, 16, 17, 18, 19, 20, 21, 22, 23, 24, 25, 26, 27, 28, 29, 30, 31, 32, 33, 34]
  · (simp only [go_sem, Try.ntmps8, hs, ok, hq, bne_self_eq_false, ha, hb, ea, eb, ka, kb, fa, fb, eq, kq, fq, q1, q4, he1, q6, hm]) <;> exact rfl
  apply W_pre [12, 13, 14, 15] [16, 17, 18, 19, 20, 21, 22, 23, 24, 25, 26, 27, 28, 29, 30, 31, 32, 33, 34]
  · (simp only [go_sem, Try.ntmps8, hs, ok, hq, bne_self_eq_false, ha, hb, ea, eb, ka, kb, fa, fb, eq, kq, fq, q1, q4, he1, q6, hm]) <;> exact rfl
  apply W_pre [16, 17, 18, 19] [20, 21, 22, 23, 24, 25, 26, 27, 28, 29, 30, 31, 32, 33, 34]
  · (simp only [go_sem, Try.ntmps8, hs, ok, hq, bne_self_eq_false, ha, hb, ea, eb, ka, kb, fa, fb, eq, kq, fq, q1, q4, he1, q6, hm]) <;> exact rfl
  apply W_pre [20, 21, 22, 23] [24, 25, 26, 27, 28, 29, 30, 31, 32, 33, 34]
  · (simp only [go_sem, Try.ntmps8, hs, ok, hq, bne_self_eq_false, ha, hb, ea, eb, ka, kb, fa, fb, eq, kq, fq, q1, q4, he1, q6, hm]) <;> exact rfl
  apply W_pre [24, 25, 26, 27] [28, 29, 30, 31, 32, 33, 34]
  · (simp only [go_sem, Try.ntmps8, hs, ok, hq, bne_self_eq_false, ha, hb, ea, eb, ka, kb, fa, fb, eq, kq, fq, q1, q4, he1, q6, hm]) <;> exact rfl
  apply W_pre [28, 29, 30, 31] [32, 33, 34]
  · (simp only [go_sem, Try.ntmps8, hs, ok, hq, bne_self_eq_false, ha, hb, ea, eb, ka, kb, fa, fb, eq, kq, fq, q1, q4, he1, q6, hm]) <;> exact rfl
  apply W_call -- call 18 of function 16
  · (simp only [go_sem, Try.ntmps8, hs, ok, hq, bne_self_eq_false, ha, hb, ea, eb, ka, kb, fa, fb, eq, kq, fq, q1, q4, he1, q6, hm]) <;> exact rfl
  · (simp only [go_sem, Try.ntmps8, hs, ok, hq, bne_self_eq_false, ha, hb, ea, eb, ka, kb, fa, fb, eq, kq, fq, q1, q4, he1, q6, hm]) <;> exact rfl
  · exact rfl
  · (simp only [go_sem, Try.ntmps8, hs, ok, hq, bne_self_eq_false, ha, hb, ea, eb, ka, kb, fa, fb, eq, kq, fq, q1, q4, he1, q6, hm]) <;> exact rfl
  · (simp only [go_sem, Try.ntmps8, hs, ok, hq, bne_self_eq_false, ha, hb, ea, eb, ka, kb, fa, fb, eq, kq, fq, q1, q4, he1, q6, hm]) <;> exact rfl
  · exact ⟨_, Try.func16, rfl, rfl⟩
  · (simp only [go_sem, Try.ntmps8, hs, ok, hq, bne_self_eq_false, ha, hb, ea, eb, ka, kb, fa, fb, eq, kq, fq, q1, q4, he1, q6, hm]) <;> exact rfl
  · (simp only [go_sem, Try.ntmps8, hs, ok, hq, bne_self_eq_false, ha, hb, ea, eb, ka, kb, fa, fb, eq, kq, fq, q1, q4, he1, q6, hm]) <;> exact rfl
  · exact known_ok
  apply W_run
  · (simp only [go_sem, Try.ntmps8, hs, ok, hq, bne_self_eq_false, ha, hb, ea, eb, ka, kb, fa, fb, eq, kq, fq, q1, q4, he1, q6, hm]) <;> exact rfl
  apply W_nil
  apply K_seq
  apply T_ret
  apply fin_ret
  · (simp only [go_sem, Try.ntmps8, hs, ok, hq, bne_self_eq_false, ha, hb, ea, eb, ka, kb, fa, fb, eq, kq, fq, q1, q4, he1, q6, hm, Try.f8]) <;> exact rfl
  -- leaf 0 (ret)
  
  all_goals rfl

theorem law_rivalsG (t : Town) (q a b : List Int) (hs : M.Short t) (ok : M.Ok t) (hq : M.plan t q = true) (hBest : M.least (fun p => (M.sum (M.ranks t p), 0)) (M.plans t) = some (a, (M.sum (M.ranks t a), 0))) (ha : M.plan t a = true) (aa : M.allowed t a = true) (bB : ∀ q, M.plan t q = true → M.allowed t q = true → ¬ M.sum (M.ranks t q) < M.sum (M.ranks t a) ∧ (M.sum (M.ranks t q) = M.sum (M.ranks t a) → M.before q a = false)) (hFair : M.least (fun p => (M.most (M.ranks t p), M.sum (M.ranks t p))) (M.plans t) = some (b, (M.most (M.ranks t b), M.sum (M.ranks t b)))) (hb : M.plan t b = true) (ab : M.allowed t b = true) (bF : ∀ q, M.plan t q = true → M.allowed t q = true → M.most (M.ranks t b) ≤ M.most (M.ranks t q) ∧ (M.most (M.ranks t q) = M.most (M.ranks t b) → M.sum (M.ranks t b) ≤ M.sum (M.ranks t q) ∧ (M.sum (M.ranks t q) = M.sum (M.ranks t b) → M.before q b = false))) (aq : M.allowed t q = true) (he : M.sum (M.ranks t q) = M.sum (M.ranks t a)) (hm : M.most (M.ranks t q) = M.most (M.ranks t b)) (hz : M.sum (M.ranks t b) < M.sum (M.ranks t q))  : Ret Try.prog 8 [.agg (cT t), .sl 1 (rI q)] (.bool true) := by
  have hh : t.houses.length ≤ 1000 := by have := hs.2.2.2.2.2.1; omega
  have ea : M.err t a = 0 := by simp [M.err, ok, ha, aa]
  have ka : M.rk t a = M.ranks t a := by simp [M.rk, ea]
  have fa := M.fine_ranks ok ha aa
  have la : (M.ranks t a).length = t.houses.length := by rw [M.ranks_length]; exact (M.plan_iff.1 ha).1
  have eb : M.err t b = 0 := by simp [M.err, ok, hb, ab]
  have kb : M.rk t b = M.ranks t b := by simp [M.rk, eb]
  have fb := M.fine_ranks ok hb ab
  have lb : (M.ranks t b).length = t.houses.length := by rw [M.ranks_length]; exact (M.plan_iff.1 hb).1
  have eq : M.err t q = 0 := by simp [M.err, ok, hq, aq]
  have kq : M.rk t q = M.ranks t q := by simp [M.rk, eq]
  have fq := M.fine_ranks ok hq aq
  have lq : (M.ranks t q).length = t.houses.length := by rw [M.ranks_length]; exact (M.plan_iff.1 hq).1
  obtain ⟨q1, q2⟩ := bB q hq aq
  obtain ⟨q4, q5⟩ := bF q hq aq
  have he1 : (M.sum (M.ranks t q) == M.sum (M.ranks t a)) = true := by simpa using he
  have q6 := q2 he
  obtain ⟨q7, q8⟩ := q5 hm
  have hm1 : ¬ M.most (M.ranks t b) < M.most (M.ranks t q) := by omega
  apply Ret_fin (fn := Try.f8) Try.func8 rfl
  apply T_seq
  apply T_r F
  · (simp only [go_sem, Try.ntmps8, hs, ok, hq, bne_self_eq_false, ha, hb, ea, eb, ka, kb, fa, fb, eq, kq, fq, q1, q4, he1, q6, hm1, q7, hz]) <;> exact rfl
  apply K_seq
  apply T_seq
  apply T_seq
  apply T_wL F [0, 1, 2, 3, 4, 5, 6, 7, 8, 9, 10, 11, 12, 13] rfl
  apply W_pre [0] [1, 2, 3, 4, 5, 6, 7, 8, 9, 10, 11, 12, 13]
  · (simp only [go_sem, Try.ntmps8, hs, ok, hq, bne_self_eq_false, ha, hb, ea, eb, ka, kb, fa, fb, eq, kq, fq, q1, q4, he1, q6, hm1, q7, hz]) <;> exact rfl
  apply W_call -- call 0 of function 12
  · (simp only [go_sem, Try.ntmps8, hs, ok, hq, bne_self_eq_false, ha, hb, ea, eb, ka, kb, fa, fb, eq, kq, fq, q1, q4, he1, q6, hm1, q7, hz]) <;> exact rfl
  · (simp only [go_sem, Try.ntmps8, hs, ok, hq, bne_self_eq_false, ha, hb, ea, eb, ka, kb, fa, fb, eq, kq, fq, q1, q4, he1, q6, hm1, q7, hz]) <;> exact rfl
  · exact rfl
  · (simp only [go_sem, Try.ntmps8, hs, ok, hq, bne_self_eq_false, ha, hb, ea, eb, ka, kb, fa, fb, eq, kq, fq, q1, q4, he1, q6, hm1, q7, hz]) <;> exact rfl
  · (simp only [go_sem, Try.ntmps8, hs, ok, hq, bne_self_eq_false, ha, hb, ea, eb, ka, kb, fa, fb, eq, kq, fq, q1, q4, he1, q6, hm1, q7, hz]) <;> exact rfl
  · exact ⟨_, Try.func12, rfl, rfl⟩
  · (simp only [go_sem, Try.ntmps8, hs, ok, hq, bne_self_eq_false, ha, hb, ea, eb, ka, kb, fa, fb, eq, kq, fq, q1, q4, he1, q6, hm1, q7, hz]) <;> exact rfl
  · (simp only [go_sem, Try.ntmps8, hs, ok, hq, bne_self_eq_false, ha, hb, ea, eb, ka, kb, fa, fb, eq, kq, fq, q1, q4, he1, q6, hm1, q7, hz]) <;> exact rfl
  · exact law_short _
  apply W_pre [2, 3, 4] [5, 6, 7, 8, 9, 10, 11, 12, 13]
  · (simp only [go_sem, Try.ntmps8, hs, ok, hq, bne_self_eq_false, ha, hb, ea, eb, ka, kb, fa, fb, eq, kq, fq, q1, q4, he1, q6, hm1, q7, hz]) <;> exact rfl
  apply W_call -- call 1 of function 13
  · (simp only [go_sem, Try.ntmps8, hs, ok, hq, bne_self_eq_false, ha, hb, ea, eb, ka, kb, fa, fb, eq, kq, fq, q1, q4, he1, q6, hm1, q7, hz]) <;> exact rfl
  · (simp only [go_sem, Try.ntmps8, hs, ok, hq, bne_self_eq_false, ha, hb, ea, eb, ka, kb, fa, fb, eq, kq, fq, q1, q4, he1, q6, hm1, q7, hz]) <;> exact rfl
  · exact rfl
  · (simp only [go_sem, Try.ntmps8, hs, ok, hq, bne_self_eq_false, ha, hb, ea, eb, ka, kb, fa, fb, eq, kq, fq, q1, q4, he1, q6, hm1, q7, hz]) <;> exact rfl
  · (simp only [go_sem, Try.ntmps8, hs, ok, hq, bne_self_eq_false, ha, hb, ea, eb, ka, kb, fa, fb, eq, kq, fq, q1, q4, he1, q6, hm1, q7, hz]) <;> exact rfl
  · exact ⟨_, Try.func13, rfl, rfl⟩
  · (simp only [go_sem, Try.ntmps8, hs, ok, hq, bne_self_eq_false, ha, hb, ea, eb, ka, kb, fa, fb, eq, kq, fq, q1, q4, he1, q6, hm1, q7, hz]) <;> exact rfl
  · (simp only [go_sem, Try.ntmps8, hs, ok, hq, bne_self_eq_false, ha, hb, ea, eb, ka, kb, fa, fb, eq, kq, fq, q1, q4, he1, q6, hm1, q7, hz]) <;> exact rfl
  · exact ref_town _
  apply W_pre [6, 7, 8, 9, 10] [11, 12, 13]
  · (simp only [go_sem, Try.ntmps8, hs, ok, hq, bne_self_eq_false, ha, hb, ea, eb, ka, kb, fa, fb, eq, kq, fq, q1, q4, he1, q6, hm1, q7, hz]) <;> exact rfl
  apply W_call -- call 2 of function 14
  · (simp only [go_sem, Try.ntmps8, hs, ok, hq, bne_self_eq_false, ha, hb, ea, eb, ka, kb, fa, fb, eq, kq, fq, q1, q4, he1, q6, hm1, q7, hz]) <;> exact rfl
  · (simp only [go_sem, Try.ntmps8, hs, ok, hq, bne_self_eq_false, ha, hb, ea, eb, ka, kb, fa, fb, eq, kq, fq, q1, q4, he1, q6, hm1, q7, hz]) <;> exact rfl
  · exact rfl
  · (simp only [go_sem, Try.ntmps8, hs, ok, hq, bne_self_eq_false, ha, hb, ea, eb, ka, kb, fa, fb, eq, kq, fq, q1, q4, he1, q6, hm1, q7, hz]) <;> exact rfl
  · (simp only [go_sem, Try.ntmps8, hs, ok, hq, bne_self_eq_false, ha, hb, ea, eb, ka, kb, fa, fb, eq, kq, fq, q1, q4, he1, q6, hm1, q7, hz]) <;> exact rfl
  · exact ⟨_, Try.func14, rfl, rfl⟩
  · (simp only [go_sem, Try.ntmps8, hs, ok, hq, bne_self_eq_false, ha, hb, ea, eb, ka, kb, fa, fb, eq, kq, fq, q1, q4, he1, q6, hm1, q7, hz]) <;> exact rfl
  · (simp only [go_sem, Try.ntmps8, hs, ok, hq, bne_self_eq_false, ha, hb, ea, eb, ka, kb, fa, fb, eq, kq, fq, q1, q4, he1, q6, hm1, q7, hz]) <;> exact rfl
  · exact ref_plan _ _
  apply W_run
  · (simp only [go_sem, Try.ntmps8, hs, ok, hq, bne_self_eq_false, ha, hb, ea, eb, ka, kb, fa, fb, eq, kq, fq, q1, q4, he1, q6, hm1, q7, hz]) <;> exact rfl
  apply W_nil
  apply K_seq
  apply T_ifF -- h0
  · (simp only [go_sem, Try.ntmps8, hs, ok, hq, bne_self_eq_false, ha, hb, ea, eb, ka, kb, fa, fb, eq, kq, fq, q1, q4, he1, q6, hm1, q7, hz]) <;> exact rfl
  apply T_skip
  apply K_seq
  apply T_seq
  apply T_wL F [0, 1, 2, 3, 4, 5, 6, 7, 8] rfl
  apply W_pre [0] [1, 2, 3, 4, 5, 6, 7, 8]
  · (simp only [go_sem, Try.ntmps8, hs, ok, hq, bne_self_eq_false, ha, hb, ea, eb, ka, kb, fa, fb, eq, kq, fq, q1, q4, he1, q6, hm1, q7, hz]) <;> exact rfl
  apply W_call -- call 3 of function 26
  · (simp only [go_sem, Try.ntmps8, hs, ok, hq, bne_self_eq_false, ha, hb, ea, eb, ka, kb, fa, fb, eq, kq, fq, q1, q4, he1, q6, hm1, q7, hz]) <;> exact rfl
  · (simp only [go_sem, Try.ntmps8, hs, ok, hq, bne_self_eq_false, ha, hb, ea, eb, ka, kb, fa, fb, eq, kq, fq, q1, q4, he1, q6, hm1, q7, hz]) <;> exact rfl
  · exact rfl
  · (simp only [go_sem, Try.ntmps8, hs, ok, hq, bne_self_eq_false, ha, hb, ea, eb, ka, kb, fa, fb, eq, kq, fq, q1, q4, he1, q6, hm1, q7, hz]) <;> exact rfl
  · (simp only [go_sem, Try.ntmps8, hs, ok, hq, bne_self_eq_false, ha, hb, ea, eb, ka, kb, fa, fb, eq, kq, fq, q1, q4, he1, q6, hm1, q7, hz]) <;> exact rfl
  · exact ⟨_, Try.func26, rfl, rfl⟩
  · (simp only [go_sem, Try.ntmps8, hs, ok, hq, bne_self_eq_false, ha, hb, ea, eb, ka, kb, fa, fb, eq, kq, fq, q1, q4, he1, q6, hm1, q7, hz]) <;> exact rfl
  · (simp only [go_sem, Try.ntmps8, hs, ok, hq, bne_self_eq_false, ha, hb, ea, eb, ka, kb, fa, fb, eq, kq, fq, q1, q4, he1, q6, hm1, q7, hz]) <;> exact rfl
  · exact mv_BestC t hh ok a _ hBest
  apply W_pre [2, 3, 4, 5] [6, 7, 8]
  · (simp only [go_sem, Try.ntmps8, hs, ok, hq, bne_self_eq_false, ha, hb, ea, eb, ka, kb, fa, fb, eq, kq, fq, q1, q4, he1, q6, hm1, q7, hz]) <;> exact rfl
  apply W_run
  · (simp only [go_sem, Try.ntmps8, hs, ok, hq, bne_self_eq_false, ha, hb, ea, eb, ka, kb, fa, fb, eq, kq, fq, q1, q4, he1, q6, hm1, q7, hz]) <;> exact rfl
  apply W_nil
  apply K_seq
  apply T_seq
  apply T_wL F [0, 1, 2, 3, 4, 5, 6, 7, 8] rfl
  apply W_pre [0] [1, 2, 3, 4, 5, 6, 7, 8]
  · (simp only [go_sem, Try.ntmps8, hs, ok, hq, bne_self_eq_false, ha, hb, ea, eb, ka, kb, fa, fb, eq, kq, fq, q1, q4, he1, q6, hm1, q7, hz]) <;> exact rfl
  apply W_call -- call 4 of function 27
  · (simp only [go_sem, Try.ntmps8, hs, ok, hq, bne_self_eq_false, ha, hb, ea, eb, ka, kb, fa, fb, eq, kq, fq, q1, q4, he1, q6, hm1, q7, hz]) <;> exact rfl
  · (simp only [go_sem, Try.ntmps8, hs, ok, hq, bne_self_eq_false, ha, hb, ea, eb, ka, kb, fa, fb, eq, kq, fq, q1, q4, he1, q6, hm1, q7, hz]) <;> exact rfl
  · exact rfl
  · (simp only [go_sem, Try.ntmps8, hs, ok, hq, bne_self_eq_false, ha, hb, ea, eb, ka, kb, fa, fb, eq, kq, fq, q1, q4, he1, q6, hm1, q7, hz]) <;> exact rfl
  · (simp only [go_sem, Try.ntmps8, hs, ok, hq, bne_self_eq_false, ha, hb, ea, eb, ka, kb, fa, fb, eq, kq, fq, q1, q4, he1, q6, hm1, q7, hz]) <;> exact rfl
  · exact ⟨_, Try.func27, rfl, rfl⟩
  · (simp only [go_sem, Try.ntmps8, hs, ok, hq, bne_self_eq_false, ha, hb, ea, eb, ka, kb, fa, fb, eq, kq, fq, q1, q4, he1, q6, hm1, q7, hz]) <;> exact rfl
  · (simp only [go_sem, Try.ntmps8, hs, ok, hq, bne_self_eq_false, ha, hb, ea, eb, ka, kb, fa, fb, eq, kq, fq, q1, q4, he1, q6, hm1, q7, hz]) <;> exact rfl
  · exact mv_FairestC t hh ok b _ hFair
  apply W_pre [2, 3, 4, 5] [6, 7, 8]
  · (simp only [go_sem, Try.ntmps8, hs, ok, hq, bne_self_eq_false, ha, hb, ea, eb, ka, kb, fa, fb, eq, kq, fq, q1, q4, he1, q6, hm1, q7, hz]) <;> exact rfl
  apply W_run
  · (simp only [go_sem, Try.ntmps8, hs, ok, hq, bne_self_eq_false, ha, hb, ea, eb, ka, kb, fa, fb, eq, kq, fq, q1, q4, he1, q6, hm1, q7, hz]) <;> exact rfl
  apply W_nil
  apply K_seq
  apply T_seq
  apply T_wL F [0, 1, 2, 3, 4, 5, 6, 7] rfl
  apply W_pre [0, 1] [2, 3, 4, 5, 6, 7]
  · (simp only [go_sem, Try.ntmps8, hs, ok, hq, bne_self_eq_false, ha, hb, ea, eb, ka, kb, fa, fb, eq, kq, fq, q1, q4, he1, q6, hm1, q7, hz]) <;> exact rfl
  apply W_call -- call 5 of function 34
  · (simp only [go_sem, Try.ntmps8, hs, ok, hq, bne_self_eq_false, ha, hb, ea, eb, ka, kb, fa, fb, eq, kq, fq, q1, q4, he1, q6, hm1, q7, hz]) <;> exact rfl
  · (simp only [go_sem, Try.ntmps8, hs, ok, hq, bne_self_eq_false, ha, hb, ea, eb, ka, kb, fa, fb, eq, kq, fq, q1, q4, he1, q6, hm1, q7, hz]) <;> exact rfl
  · exact rfl
  · (simp only [go_sem, Try.ntmps8, hs, ok, hq, bne_self_eq_false, ha, hb, ea, eb, ka, kb, fa, fb, eq, kq, fq, q1, q4, he1, q6, hm1, q7, hz]) <;> exact rfl
  · (simp only [go_sem, Try.ntmps8, hs, ok, hq, bne_self_eq_false, ha, hb, ea, eb, ka, kb, fa, fb, eq, kq, fq, q1, q4, he1, q6, hm1, q7, hz]) <;> exact rfl
  · exact ⟨_, Try.func34, rfl, rfl⟩
  · (simp only [go_sem, Try.ntmps8, hs, ok, hq, bne_self_eq_false, ha, hb, ea, eb, ka, kb, fa, fb, eq, kq, fq, q1, q4, he1, q6, hm1, q7, hz]) <;> exact rfl
  · (simp only [go_sem, Try.ntmps8, hs, ok, hq, bne_self_eq_false, ha, hb, ea, eb, ka, kb, fa, fb, eq, kq, fq, q1, q4, he1, q6, hm1, q7, hz]) <;> exact rfl
  · exact mv_RanksAll (by omega)
  apply W_run
  · (simp only [go_sem, Try.ntmps8, hs, ok, hq, bne_self_eq_false, ha, hb, ea, eb, ka, kb, fa, fb, eq, kq, fq, q1, q4, he1, q6, hm1, q7, hz]) <;> exact rfl
  apply W_nil
  apply K_seq
  apply T_seq
  apply T_seq
  apply T_r F
  · (simp only [go_sem, Try.ntmps8, hs, ok, hq, bne_self_eq_false, ha, hb, ea, eb, ka, kb, fa, fb, eq, kq, fq, q1, q4, he1, q6, hm1, q7, hz]) <;> exact rfl
  apply K_seq
  apply T_ifF -- h1
  · (simp only [go_sem, Try.ntmps8, hs, ok, hq, bne_self_eq_false, ha, hb, ea, eb, ka, kb, fa, fb, eq, kq, fq, q1, q4, he1, q6, hm1, q7, hz]) <;> exact rfl
  apply T_skip
  apply K_seq
  apply T_seq
  apply T_seq
  apply T_wL F [0, 1, 2, 3, 4, 5, 6, 7, 8, 9, 10, 11, 12, 13] rfl
  apply W_pre [0, 1, 2, 3, 4] [5, 6, 7, 8, 9, 10, 11, 12, 13]
  · (simp only [go_sem, Try.ntmps8, hs, ok, hq, bne_self_eq_false, ha, hb, ea, eb, ka, kb, fa, fb, eq, kq, fq, q1, q4, he1, q6, hm1, q7, hz]) <;> exact rfl
  apply W_call -- call 6 of function 14
  · (simp only [go_sem, Try.ntmps8, hs, ok, hq, bne_self_eq_false, ha, hb, ea, eb, ka, kb, fa, fb, eq, kq, fq, q1, q4, he1, q6, hm1, q7, hz]) <;> exact rfl
  · (simp only [go_sem, Try.ntmps8, hs, ok, hq, bne_self_eq_false, ha, hb, ea, eb, ka, kb, fa, fb, eq, kq, fq, q1, q4, he1, q6, hm1, q7, hz]) <;> exact rfl
  · exact rfl
  · (simp only [go_sem, Try.ntmps8, hs, ok, hq, bne_self_eq_false, ha, hb, ea, eb, ka, kb, fa, fb, eq, kq, fq, q1, q4, he1, q6, hm1, q7, hz]) <;> exact rfl
  · (simp only [go_sem, Try.ntmps8, hs, ok, hq, bne_self_eq_false, ha, hb, ea, eb, ka, kb, fa, fb, eq, kq, fq, q1, q4, he1, q6, hm1, q7, hz]) <;> exact rfl
  · exact ⟨_, Try.func14, rfl, rfl⟩
  · (simp only [go_sem, Try.ntmps8, hs, ok, hq, bne_self_eq_false, ha, hb, ea, eb, ka, kb, fa, fb, eq, kq, fq, q1, q4, he1, q6, hm1, q7, hz]) <;> exact rfl
  · (simp only [go_sem, Try.ntmps8, hs, ok, hq, bne_self_eq_false, ha, hb, ea, eb, ka, kb, fa, fb, eq, kq, fq, q1, q4, he1, q6, hm1, q7, hz]) <;> exact rfl
  · exact ref_plan _ _
  apply W_pre [6, 7, 8, 9, 10] [11, 12, 13]
  · (simp only [go_sem, Try.ntmps8, hs, ok, hq, bne_self_eq_false, ha, hb, ea, eb, ka, kb, fa, fb, eq, kq, fq, q1, q4, he1, q6, hm1, q7, hz]) <;> exact rfl
  apply W_call -- call 7 of function 14
  · (simp only [go_sem, Try.ntmps8, hs, ok, hq, bne_self_eq_false, ha, hb, ea, eb, ka, kb, fa, fb, eq, kq, fq, q1, q4, he1, q6, hm1, q7, hz]) <;> exact rfl
  · (simp only [go_sem, Try.ntmps8, hs, ok, hq, bne_self_eq_false, ha, hb, ea, eb, ka, kb, fa, fb, eq, kq, fq, q1, q4, he1, q6, hm1, q7, hz]) <;> exact rfl
  · exact rfl
  · (simp only [go_sem, Try.ntmps8, hs, ok, hq, bne_self_eq_false, ha, hb, ea, eb, ka, kb, fa, fb, eq, kq, fq, q1, q4, he1, q6, hm1, q7, hz]) <;> exact rfl
  · (simp only [go_sem, Try.ntmps8, hs, ok, hq, bne_self_eq_false, ha, hb, ea, eb, ka, kb, fa, fb, eq, kq, fq, q1, q4, he1, q6, hm1, q7, hz]) <;> exact rfl
  · exact ⟨_, Try.func14, rfl, rfl⟩
  · (simp only [go_sem, Try.ntmps8, hs, ok, hq, bne_self_eq_false, ha, hb, ea, eb, ka, kb, fa, fb, eq, kq, fq, q1, q4, he1, q6, hm1, q7, hz]) <;> exact rfl
  · (simp only [go_sem, Try.ntmps8, hs, ok, hq, bne_self_eq_false, ha, hb, ea, eb, ka, kb, fa, fb, eq, kq, fq, q1, q4, he1, q6, hm1, q7, hz]) <;> exact rfl
  · exact ref_plan _ _
  apply W_run
  · (simp only [go_sem, Try.ntmps8, hs, ok, hq, bne_self_eq_false, ha, hb, ea, eb, ka, kb, fa, fb, eq, kq, fq, q1, q4, he1, q6, hm1, q7, hz]) <;> exact rfl
  apply W_nil
  apply K_seq
  apply T_ifF -- h2
  · (simp only [go_sem, Try.ntmps8, hs, ok, hq, bne_self_eq_false, ha, hb, ea, eb, ka, kb, fa, fb, eq, kq, fq, q1, q4, he1, q6, hm1, q7, hz]) <;> exact rfl
  apply T_skip
  apply K_seq
  apply T_seq
  apply T_wL F [0, 1, 2, 3, 4, 5, 6, 7] rfl
  apply W_pre [0, 1] [2, 3, 4, 5, 6, 7]
  · (simp only [go_sem, Try.ntmps8, hs, ok, hq, bne_self_eq_false, ha, hb, ea, eb, ka, kb, fa, fb, eq, kq, fq, q1, q4, he1, q6, hm1, q7, hz]) <;> exact rfl
  apply W_call -- call 8 of function 34
  · (simp only [go_sem, Try.ntmps8, hs, ok, hq, bne_self_eq_false, ha, hb, ea, eb, ka, kb, fa, fb, eq, kq, fq, q1, q4, he1, q6, hm1, q7, hz]) <;> exact rfl
  · (simp only [go_sem, Try.ntmps8, hs, ok, hq, bne_self_eq_false, ha, hb, ea, eb, ka, kb, fa, fb, eq, kq, fq, q1, q4, he1, q6, hm1, q7, hz]) <;> exact rfl
  · exact rfl
  · (simp only [go_sem, Try.ntmps8, hs, ok, hq, bne_self_eq_false, ha, hb, ea, eb, ka, kb, fa, fb, eq, kq, fq, q1, q4, he1, q6, hm1, q7, hz]) <;> exact rfl
  · (simp only [go_sem, Try.ntmps8, hs, ok, hq, bne_self_eq_false, ha, hb, ea, eb, ka, kb, fa, fb, eq, kq, fq, q1, q4, he1, q6, hm1, q7, hz]) <;> exact rfl
  · exact ⟨_, Try.func34, rfl, rfl⟩
  · (simp only [go_sem, Try.ntmps8, hs, ok, hq, bne_self_eq_false, ha, hb, ea, eb, ka, kb, fa, fb, eq, kq, fq, q1, q4, he1, q6, hm1, q7, hz]) <;> exact rfl
  · (simp only [go_sem, Try.ntmps8, hs, ok, hq, bne_self_eq_false, ha, hb, ea, eb, ka, kb, fa, fb, eq, kq, fq, q1, q4, he1, q6, hm1, q7, hz]) <;> exact rfl
  · exact mv_RanksAll (by omega)
  apply W_run
  · (simp only [go_sem, Try.ntmps8, hs, ok, hq, bne_self_eq_false, ha, hb, ea, eb, ka, kb, fa, fb, eq, kq, fq, q1, q4, he1, q6, hm1, q7, hz]) <;> exact rfl
  apply W_nil
  apply K_seq
  apply T_seq
  apply T_wL F [0, 1, 2, 3, 4, 5, 6, 7] rfl
  apply W_pre [0, 1] [2, 3, 4, 5, 6, 7]
  · (simp only [go_sem, Try.ntmps8, hs, ok, hq, bne_self_eq_false, ha, hb, ea, eb, ka, kb, fa, fb, eq, kq, fq, q1, q4, he1, q6, hm1, q7, hz]) <;> exact rfl
  apply W_call -- call 9 of function 34
  · (simp only [go_sem, Try.ntmps8, hs, ok, hq, bne_self_eq_false, ha, hb, ea, eb, ka, kb, fa, fb, eq, kq, fq, q1, q4, he1, q6, hm1, q7, hz]) <;> exact rfl
  · (simp only [go_sem, Try.ntmps8, hs, ok, hq, bne_self_eq_false, ha, hb, ea, eb, ka, kb, fa, fb, eq, kq, fq, q1, q4, he1, q6, hm1, q7, hz]) <;> exact rfl
  · exact rfl
  · (simp only [go_sem, Try.ntmps8, hs, ok, hq, bne_self_eq_false, ha, hb, ea, eb, ka, kb, fa, fb, eq, kq, fq, q1, q4, he1, q6, hm1, q7, hz]) <;> exact rfl
  · (simp only [go_sem, Try.ntmps8, hs, ok, hq, bne_self_eq_false, ha, hb, ea, eb, ka, kb, fa, fb, eq, kq, fq, q1, q4, he1, q6, hm1, q7, hz]) <;> exact rfl
  · exact ⟨_, Try.func34, rfl, rfl⟩
  · (simp only [go_sem, Try.ntmps8, hs, ok, hq, bne_self_eq_false, ha, hb, ea, eb, ka, kb, fa, fb, eq, kq, fq, q1, q4, he1, q6, hm1, q7, hz]) <;> exact rfl
  · (simp only [go_sem, Try.ntmps8, hs, ok, hq, bne_self_eq_false, ha, hb, ea, eb, ka, kb, fa, fb, eq, kq, fq, q1, q4, he1, q6, hm1, q7, hz]) <;> exact rfl
  · exact mv_RanksAll (by omega)
  apply W_run
  · (simp only [go_sem, Try.ntmps8, hs, ok, hq, bne_self_eq_false, ha, hb, ea, eb, ka, kb, fa, fb, eq, kq, fq, q1, q4, he1, q6, hm1, q7, hz]) <;> exact rfl
  apply W_nil
  apply K_seq
  apply T_seq
  apply T_seq
  apply T_wL F [0, 1, 2, 3, 4, 5, 6, 7, 8, 9, 10, 11, 12, 13, 14, 15, 16, 17, 18, 19, 20, 21, 22, 23, 24, 25, 26, 27, 28, 29] rfl
  apply W_pre [0, 1, 2, 3] [4, 5, 6, 7, 8, 9, 10, 11, 12, 13, 14, 15, 16, 17, 18, 19, 20, 21, 22, 23, 24, 25, 26, 27, 28, 29]
  · (simp only [go_sem, Try.ntmps8, hs, ok, hq, bne_self_eq_false, ha, hb, ea, eb, ka, kb, fa, fb, eq, kq, fq, q1, q4, he1, q6, hm1, q7, hz]) <;> exact rfl
  apply W_pre [4, 5, 6, 7, 8] [9, 10, 11, 12, 13, 14, 15, 16, 17, 18, 19, 20, 21, 22, 23, 24, 25, 26, 27, 28, 29]
  · (simp only [go_sem, Try.ntmps8, hs, ok, hq, bne_self_eq_false, ha, hb, ea, eb, ka, kb, fa, fb, eq, kq, fq, q1, q4, he1, q6, hm1, q7, hz]) <;> exact rfl
  apply W_call -- call 10 of function 35
  · (simp only [go_sem, Try.ntmps8, hs, ok, hq, bne_self_eq_false, ha, hb, ea, eb, ka, kb, fa, fb, eq, kq, fq, q1, q4, he1, q6, hm1, q7, hz]) <;> exact rfl
  · (simp only [go_sem, Try.ntmps8, hs, ok, hq, bne_self_eq_false, ha, hb, ea, eb, ka, kb, fa, fb, eq, kq, fq, q1, q4, he1, q6, hm1, q7, hz]) <;> exact rfl
  · exact rfl
  · (simp only [go_sem, Try.ntmps8, hs, ok, hq, bne_self_eq_false, ha, hb, ea, eb, ka, kb, fa, fb, eq, kq, fq, q1, q4, he1, q6, hm1, q7, hz]) <;> exact rfl
  · (simp only [go_sem, Try.ntmps8, hs, ok, hq, bne_self_eq_false, ha, hb, ea, eb, ka, kb, fa, fb, eq, kq, fq, q1, q4, he1, q6, hm1, q7, hz]) <;> exact rfl
  · exact ⟨_, Try.func35, rfl, rfl⟩
  · (simp only [go_sem, Try.ntmps8, hs, ok, hq, bne_self_eq_false, ha, hb, ea, eb, ka, kb, fa, fb, eq, kq, fq, q1, q4, he1, q6, hm1, q7, hz]) <;> exact rfl
  · (simp only [go_sem, Try.ntmps8, hs, ok, hq, bne_self_eq_false, ha, hb, ea, eb, ka, kb, fa, fb, eq, kq, fq, q1, q4, he1, q6, hm1, q7, hz]) <;> exact rfl
  · exact law_fine _ _
  apply W_pre [10, 11, 12, 13, 14] [15, 16, 17, 18, 19, 20, 21, 22, 23, 24, 25, 26, 27, 28, 29]
  · (simp only [go_sem, Try.ntmps8, hs, ok, hq, bne_self_eq_false, ha, hb, ea, eb, ka, kb, fa, fb, eq, kq, fq, q1, q4, he1, q6, hm1, q7, hz]) <;> exact rfl
  apply W_call -- call 11 of function 35
  · (simp only [go_sem, Try.ntmps8, hs, ok, hq, bne_self_eq_false, ha, hb, ea, eb, ka, kb, fa, fb, eq, kq, fq, q1, q4, he1, q6, hm1, q7, hz]) <;> exact rfl
  · (simp only [go_sem, Try.ntmps8, hs, ok, hq, bne_self_eq_false, ha, hb, ea, eb, ka, kb, fa, fb, eq, kq, fq, q1, q4, he1, q6, hm1, q7, hz]) <;> exact rfl
  · exact rfl
  · (simp only [go_sem, Try.ntmps8, hs, ok, hq, bne_self_eq_false, ha, hb, ea, eb, ka, kb, fa, fb, eq, kq, fq, q1, q4, he1, q6, hm1, q7, hz]) <;> exact rfl
  · (simp only [go_sem, Try.ntmps8, hs, ok, hq, bne_self_eq_false, ha, hb, ea, eb, ka, kb, fa, fb, eq, kq, fq, q1, q4, he1, q6, hm1, q7, hz]) <;> exact rfl
  · exact ⟨_, Try.func35, rfl, rfl⟩
  · (simp only [go_sem, Try.ntmps8, hs, ok, hq, bne_self_eq_false, ha, hb, ea, eb, ka, kb, fa, fb, eq, kq, fq, q1, q4, he1, q6, hm1, q7, hz]) <;> exact rfl
  · (simp only [go_sem, Try.ntmps8, hs, ok, hq, bne_self_eq_false, ha, hb, ea, eb, ka, kb, fa, fb, eq, kq, fq, q1, q4, he1, q6, hm1, q7, hz]) <;> exact rfl
  · exact law_fine _ _
  apply W_pre [16, 17, 18, 19] [20, 21, 22, 23, 24, 25, 26, 27, 28, 29]
  · (simp only [go_sem, Try.ntmps8, hs, ok, hq, bne_self_eq_false, ha, hb, ea, eb, ka, kb, fa, fb, eq, kq, fq, q1, q4, he1, q6, hm1, q7, hz]) <;> exact rfl
  apply W_call -- call 12 of function 30
  · (simp only [go_sem, Try.ntmps8, hs, ok, hq, bne_self_eq_false, ha, hb, ea, eb, ka, kb, fa, fb, eq, kq, fq, q1, q4, he1, q6, hm1, q7, hz]) <;> exact rfl
  · (simp only [go_sem, Try.ntmps8, hs, ok, hq, bne_self_eq_false, ha, hb, ea, eb, ka, kb, fa, fb, eq, kq, fq, q1, q4, he1, q6, hm1, q7, hz]) <;> exact rfl
  · exact rfl
  · (simp only [go_sem, Try.ntmps8, hs, ok, hq, bne_self_eq_false, ha, hb, ea, eb, ka, kb, fa, fb, eq, kq, fq, q1, q4, he1, q6, hm1, q7, hz]) <;> exact rfl
  · (simp only [go_sem, Try.ntmps8, hs, ok, hq, bne_self_eq_false, ha, hb, ea, eb, ka, kb, fa, fb, eq, kq, fq, q1, q4, he1, q6, hm1, q7, hz]) <;> exact rfl
  · exact ⟨_, Try.func30, rfl, rfl⟩
  · (simp only [go_sem, Try.ntmps8, hs, ok, hq, bne_self_eq_false, ha, hb, ea, eb, ka, kb, fa, fb, eq, kq, fq, q1, q4, he1, q6, hm1, q7, hz]) <;> exact rfl
  · (simp only [go_sem, Try.ntmps8, hs, ok, hq, bne_self_eq_false, ha, hb, ea, eb, ka, kb, fa, fb, eq, kq, fq, q1, q4, he1, q6, hm1, q7, hz]) <;> exact rfl
  · exact ref_sum _ (M.ranks_wide ok) (by omega)
  apply W_pre [21, 22, 23, 24, 25] [26, 27, 28, 29]
  · (simp only [go_sem, Try.ntmps8, hs, ok, hq, bne_self_eq_false, ha, hb, ea, eb, ka, kb, fa, fb, eq, kq, fq, q1, q4, he1, q6, hm1, q7, hz]) <;> exact rfl
  apply W_call -- call 13 of function 32
  · (simp only [go_sem, Try.ntmps8, hs, ok, hq, bne_self_eq_false, ha, hb, ea, eb, ka, kb, fa, fb, eq, kq, fq, q1, q4, he1, q6, hm1, q7, hz]) <;> exact rfl
  · (simp only [go_sem, Try.ntmps8, hs, ok, hq, bne_self_eq_false, ha, hb, ea, eb, ka, kb, fa, fb, eq, kq, fq, q1, q4, he1, q6, hm1, q7, hz]) <;> exact rfl
  · exact rfl
  · (simp only [go_sem, Try.ntmps8, hs, ok, hq, bne_self_eq_false, ha, hb, ea, eb, ka, kb, fa, fb, eq, kq, fq, q1, q4, he1, q6, hm1, q7, hz]) <;> exact rfl
  · (simp only [go_sem, Try.ntmps8, hs, ok, hq, bne_self_eq_false, ha, hb, ea, eb, ka, kb, fa, fb, eq, kq, fq, q1, q4, he1, q6, hm1, q7, hz]) <;> exact rfl
  · exact ⟨_, Try.func32, rfl, rfl⟩
  · (simp only [go_sem, Try.ntmps8, hs, ok, hq, bne_self_eq_false, ha, hb, ea, eb, ka, kb, fa, fb, eq, kq, fq, q1, q4, he1, q6, hm1, q7, hz]) <;> exact rfl
  · (simp only [go_sem, Try.ntmps8, hs, ok, hq, bne_self_eq_false, ha, hb, ea, eb, ka, kb, fa, fb, eq, kq, fq, q1, q4, he1, q6, hm1, q7, hz]) <;> exact rfl
  · exact ref_most _
  apply W_run
  · (simp only [go_sem, Try.ntmps8, hs, ok, hq, bne_self_eq_false, ha, hb, ea, eb, ka, kb, fa, fb, eq, kq, fq, q1, q4, he1, q6, hm1, q7, hz]) <;> exact rfl
  apply W_nil
  apply K_seq
  apply T_ifF -- h3
  · (simp only [go_sem, Try.ntmps8, hs, ok, hq, bne_self_eq_false, ha, hb, ea, eb, ka, kb, fa, fb, eq, kq, fq, q1, q4, he1, q6, hm1, q7, hz]) <;> exact rfl
  apply T_skip
  apply K_seq
  apply T_seq
  apply T_seq
  apply T_r F
  · (simp only [go_sem, Try.ntmps8, hs, ok, hq, bne_self_eq_false, ha, hb, ea, eb, ka, kb, fa, fb, eq, kq, fq, q1, q4, he1, q6, hm1, q7, hz]) <;> exact rfl
  apply K_seq
  apply T_ifF -- h4
  · (simp only [go_sem, Try.ntmps8, hs, ok, hq, bne_self_eq_false, ha, hb, ea, eb, ka, kb, fa, fb, eq, kq, fq, q1, q4, he1, q6, hm1, q7, hz]) <;> exact rfl
  apply T_skip
  apply K_seq
  apply T_seq
  apply T_seq
  apply T_wL F [0, 1, 2, 3] rfl
  apply W_pre [0, 1] [2, 3]
  · (simp only [go_sem, Try.ntmps8, hs, ok, hq, bne_self_eq_false, ha, hb, ea, eb, ka, kb, fa, fb, eq, kq, fq, q1, q4, he1, q6, hm1, q7, hz]) <;> exact rfl
  apply W_call -- call 14 of function 35
  · (simp only [go_sem, Try.ntmps8, hs, ok, hq, bne_self_eq_false, ha, hb, ea, eb, ka, kb, fa, fb, eq, kq, fq, q1, q4, he1, q6, hm1, q7, hz]) <;> exact rfl
  · (simp only [go_sem, Try.ntmps8, hs, ok, hq, bne_self_eq_false, ha, hb, ea, eb, ka, kb, fa, fb, eq, kq, fq, q1, q4, he1, q6, hm1, q7, hz]) <;> exact rfl
  · exact rfl
  · (simp only [go_sem, Try.ntmps8, hs, ok, hq, bne_self_eq_false, ha, hb, ea, eb, ka, kb, fa, fb, eq, kq, fq, q1, q4, he1, q6, hm1, q7, hz]) <;> exact rfl
  · (simp only [go_sem, Try.ntmps8, hs, ok, hq, bne_self_eq_false, ha, hb, ea, eb, ka, kb, fa, fb, eq, kq, fq, q1, q4, he1, q6, hm1, q7, hz]) <;> exact rfl
  · exact ⟨_, Try.func35, rfl, rfl⟩
  · (simp only [go_sem, Try.ntmps8, hs, ok, hq, bne_self_eq_false, ha, hb, ea, eb, ka, kb, fa, fb, eq, kq, fq, q1, q4, he1, q6, hm1, q7, hz]) <;> exact rfl
  · (simp only [go_sem, Try.ntmps8, hs, ok, hq, bne_self_eq_false, ha, hb, ea, eb, ka, kb, fa, fb, eq, kq, fq, q1, q4, he1, q6, hm1, q7, hz]) <;> exact rfl
  · exact law_fine _ _
  apply W_run
  · (simp only [go_sem, Try.ntmps8, hs, ok, hq, bne_self_eq_false, ha, hb, ea, eb, ka, kb, fa, fb, eq, kq, fq, q1, q4, he1, q6, hm1, q7, hz]) <;> exact rfl
  apply W_nil
  apply K_seq
  apply T_ifF -- h5
  · (simp only [go_sem, Try.ntmps8, hs, ok, hq, bne_self_eq_false, ha, hb, ea, eb, ka, kb, fa, fb, eq, kq, fq, q1, q4, he1, q6, hm1, q7, hz]) <;> exact rfl
  apply T_skip
  apply K_seq
  apply T_seq
  apply T_wL F [0, 1, 2, 3, 4, 5] rfl
  apply W_pre [0] [1, 2, 3, 4, 5]
  · (simp only [go_sem, Try.ntmps8, hs, ok, hq, bne_self_eq_false, ha, hb, ea, eb, ka, kb, fa, fb, eq, kq, fq, q1, q4, he1, q6, hm1, q7, hz]) <;> exact rfl
  apply W_call -- call 15 of function 30
  · (simp only [go_sem, Try.ntmps8, hs, ok, hq, bne_self_eq_false, ha, hb, ea, eb, ka, kb, fa, fb, eq, kq, fq, q1, q4, he1, q6, hm1, q7, hz]) <;> exact rfl
  · (simp only [go_sem, Try.ntmps8, hs, ok, hq, bne_self_eq_false, ha, hb, ea, eb, ka, kb, fa, fb, eq, kq, fq, q1, q4, he1, q6, hm1, q7, hz]) <;> exact rfl
  · exact rfl
  · (simp only [go_sem, Try.ntmps8, hs, ok, hq, bne_self_eq_false, ha, hb, ea, eb, ka, kb, fa, fb, eq, kq, fq, q1, q4, he1, q6, hm1, q7, hz]) <;> exact rfl
  · (simp only [go_sem, Try.ntmps8, hs, ok, hq, bne_self_eq_false, ha, hb, ea, eb, ka, kb, fa, fb, eq, kq, fq, q1, q4, he1, q6, hm1, q7, hz]) <;> exact rfl
  · exact ⟨_, Try.func30, rfl, rfl⟩
  · (simp only [go_sem, Try.ntmps8, hs, ok, hq, bne_self_eq_false, ha, hb, ea, eb, ka, kb, fa, fb, eq, kq, fq, q1, q4, he1, q6, hm1, q7, hz]) <;> exact rfl
  · (simp only [go_sem, Try.ntmps8, hs, ok, hq, bne_self_eq_false, ha, hb, ea, eb, ka, kb, fa, fb, eq, kq, fq, q1, q4, he1, q6, hm1, q7, hz]) <;> exact rfl
  · exact ref_sum _ (M.ranks_wide ok) (by omega)
  apply W_pre [2] [3, 4, 5]
  · (simp only [go_sem, Try.ntmps8, hs, ok, hq, bne_self_eq_false, ha, hb, ea, eb, ka, kb, fa, fb, eq, kq, fq, q1, q4, he1, q6, hm1, q7, hz]) <;> exact rfl
  apply W_call -- call 16 of function 32
  · (simp only [go_sem, Try.ntmps8, hs, ok, hq, bne_self_eq_false, ha, hb, ea, eb, ka, kb, fa, fb, eq, kq, fq, q1, q4, he1, q6, hm1, q7, hz]) <;> exact rfl
  · (simp only [go_sem, Try.ntmps8, hs, ok, hq, bne_self_eq_false, ha, hb, ea, eb, ka, kb, fa, fb, eq, kq, fq, q1, q4, he1, q6, hm1, q7, hz]) <;> exact rfl
  · exact rfl
  · (simp only [go_sem, Try.ntmps8, hs, ok, hq, bne_self_eq_false, ha, hb, ea, eb, ka, kb, fa, fb, eq, kq, fq, q1, q4, he1, q6, hm1, q7, hz]) <;> exact rfl
  · (simp only [go_sem, Try.ntmps8, hs, ok, hq, bne_self_eq_false, ha, hb, ea, eb, ka, kb, fa, fb, eq, kq, fq, q1, q4, he1, q6, hm1, q7, hz]) <;> exact rfl
  · exact ⟨_, Try.func32, rfl, rfl⟩
  · (simp only [go_sem, Try.ntmps8, hs, ok, hq, bne_self_eq_false, ha, hb, ea, eb, ka, kb, fa, fb, eq, kq, fq, q1, q4, he1, q6, hm1, q7, hz]) <;> exact rfl
  · (simp only [go_sem, Try.ntmps8, hs, ok, hq, bne_self_eq_false, ha, hb, ea, eb, ka, kb, fa, fb, eq, kq, fq, q1, q4, he1, q6, hm1, q7, hz]) <;> exact rfl
  · exact ref_most _
  apply W_run
  · (simp only [go_sem, Try.ntmps8, hs, ok, hq, bne_self_eq_false, ha, hb, ea, eb, ka, kb, fa, fb, eq, kq, fq, q1, q4, he1, q6, hm1, q7, hz]) <;> exact rfl
  apply W_nil
  apply K_seq
  apply T_seq
  apply T_seq
  apply T_wL F [0, 1, 2, 3, 4, 5, 6, 7, 8, 9, 10, 11, 12] rfl
  apply W_pre [0, 1, 2, 3] [4, 5, 6, 7, 8, 9, 10, 11, 12]
  · (simp only [go_sem, Try.ntmps8, hs, ok, hq, bne_self_eq_false, ha, hb, ea, eb, ka, kb, fa, fb, eq, kq, fq, q1, q4, he1, q6, hm1, q7, hz]) <;> exact rfl
  apply W_pre [4, 5, 6, 7, 8, 9] [10, 11, 12]
  · (simp only [go_sem, Try.ntmps8, hs, ok, hq, bne_self_eq_false, ha, hb, ea, eb, ka, kb, fa, fb, eq, kq, fq, q1, q4, he1, q6, hm1, q7, hz]) <;> exact rfl
  apply W_call -- call 17 of function 25
  · (simp only [go_sem, Try.ntmps8, hs, ok, hq, bne_self_eq_false, ha, hb, ea, eb, ka, kb, fa, fb, eq, kq, fq, q1, q4, he1, q6, hm1, q7, hz]) <;> exact rfl
  · (simp only [go_sem, Try.ntmps8, hs, ok, hq, bne_self_eq_false, ha, hb, ea, eb, ka, kb, fa, fb, eq, kq, fq, q1, q4, he1, q6, hm1, q7, hz]) <;> exact rfl
  · exact rfl
  · (simp only [go_sem, Try.ntmps8, hs, ok, hq, bne_self_eq_false, ha, hb, ea, eb, ka, kb, fa, fb, eq, kq, fq, q1, q4, he1, q6, hm1, q7, hz]) <;> exact rfl
  · (simp only [go_sem, Try.ntmps8, hs, ok, hq, bne_self_eq_false, ha, hb, ea, eb, ka, kb, fa, fb, eq, kq, fq, q1, q4, he1, q6, hm1, q7, hz]) <;> exact rfl
  · exact ⟨_, Try.func25, rfl, rfl⟩
  · (simp only [go_sem, Try.ntmps8, hs, ok, hq, bne_self_eq_false, ha, hb, ea, eb, ka, kb, fa, fb, eq, kq, fq, q1, q4, he1, q6, hm1, q7, hz]) <;> exact rfl
  · (simp only [go_sem, Try.ntmps8, hs, ok, hq, bne_self_eq_false, ha, hb, ea, eb, ka, kb, fa, fb, eq, kq, fq, q1, q4, he1, q6, hm1, q7, hz]) <;> exact rfl
  · exact ref_before _ _
  apply W_run
  · (simp only [go_sem, Try.ntmps8, hs, ok, hq, bne_self_eq_false, ha, hb, ea, eb, ka, kb, fa, fb, eq, kq, fq, q1, q4, he1, q6, hm1, q7, hz]) <;> exact rfl
  apply W_nil
  apply K_seq
  apply T_ifF -- h6
  · (simp only [go_sem, Try.ntmps8, hs, ok, hq, bne_self_eq_false, ha, hb, ea, eb, ka, kb, fa, fb, eq, kq, fq, q1, q4, he1, q6, hm1, q7, hz]) <;> exact rfl
  apply T_skip
  apply K_seq
  apply T_seq
  apply T_wL F [0, 1, 2, 3, 4, 5, 6, 7, 8, 9, 10, 11, 12, 13, 14, 15, 16, 17, 18, 19, 20, 21, 22, 23, 24, 25, 26, 27, 28, 29, 30, 31, 32, 33, 34] rfl
  apply W_pre [0, 1, 2, 3] [4, 5, 6, 7, 8, 9, 10, 11, 12, 13, 14, 15, 16, 17, 18, 19, 20, 21, 22, 23, 24, 25, 26, 27, 28, 29, 30, 31, 32, 33, 34]
  · (simp only [go_sem, Try.ntmps8, hs, ok, hq, bne_self_eq_false, ha, hb, ea, eb, ka, kb, fa, fb, eq, kq, fq, q1, q4, he1, q6, hm1, q7, hz]) <;> exact rfl
  apply W_pre [4, 5, 6, 7, 8, 9] [10, 11, 12, 13, 14, 15, 16, 17, 18, 19, 20, 21, 22, 23, 24, 25, 26, 27, 28, 29, 30, 31, 32, 33, 34]
  · (simp only [go_sem, Try.ntmps8, hs, ok, hq, bne_self_eq_false, ha, hb, ea, eb, ka, kb, fa, fb, eq, kq, fq, q1, q4, he1, q6, hm1, q7, hz]) <;> exact rfl
  apply W_call -- call 18 of function 30
  · (simp only [go_sem, Try.ntmps8, hs, ok, hq, bne_self_eq_false, ha, hb, ea, eb, ka, kb, fa, fb, eq, kq, fq, q1, q4, he1, q6, hm1, q7, hz]) <;> exact rfl
  · (simp only [go_sem, Try.ntmps8, hs, ok, hq, bne_self_eq_false, ha, hb, ea, eb, ka, kb, fa, fb, eq, kq, fq, q1, q4, he1, q6, hm1, q7, hz]) <;> exact rfl
  · exact rfl
  · (simp only [go_sem, Try.ntmps8, hs, ok, hq, bne_self_eq_false, ha, hb, ea, eb, ka, kb, fa, fb, eq, kq, fq, q1, q4, he1, q6, hm1, q7, hz]) <;> exact rfl
  · (simp only [go_sem, Try.ntmps8, hs, ok, hq, bne_self_eq_false, ha, hb, ea, eb, ka, kb, fa, fb, eq, kq, fq, q1, q4, he1, q6, hm1, q7, hz]) <;> exact rfl
  · exact ⟨_, Try.func30, rfl, rfl⟩
  · (simp only [go_sem, Try.ntmps8, hs, ok, hq, bne_self_eq_false, ha, hb, ea, eb, ka, kb, fa, fb, eq, kq, fq, q1, q4, he1, q6, hm1, q7, hz]) <;> exact rfl
  · (simp only [go_sem, Try.ntmps8, hs, ok, hq, bne_self_eq_false, ha, hb, ea, eb, ka, kb, fa, fb, eq, kq, fq, q1, q4, he1, q6, hm1, q7, hz]) <;> exact rfl
  · exact ref_sum _ (M.ranks_wide ok) (by omega)
  apply W_pre [11, 12, 13, 14] [15, 16, 17, 18, 19, 20, 21, 22, 23, 24, 25, 26, 27, 28, 29, 30, 31, 32, 33, 34]
  · (simp only [go_sem, Try.ntmps8, hs, ok, hq, bne_self_eq_false, ha, hb, ea, eb, ka, kb, fa, fb, eq, kq, fq, q1, q4, he1, q6, hm1, q7, hz]) <;> exact rfl
  apply W_pre [15, 16, 17, 18, 19, 20] [21, 22, 23, 24, 25, 26, 27, 28, 29, 30, 31, 32, 33, 34]
  · (simp only [go_sem, Try.ntmps8, hs, ok, hq, bne_self_eq_false, ha, hb, ea, eb, ka, kb, fa, fb, eq, kq, fq, q1, q4, he1, q6, hm1, q7, hz]) <;> exact rfl
  apply W_call -- call 19 of function 30
  · (simp only [go_sem, Try.ntmps8, hs, ok, hq, bne_self_eq_false, ha, hb, ea, eb, ka, kb, fa, fb, eq, kq, fq, q1, q4, he1, q6, hm1, q7, hz]) <;> exact rfl
  · (simp only [go_sem, Try.ntmps8, hs, ok, hq, bne_self_eq_false, ha, hb, ea, eb, ka, kb, fa, fb, eq, kq, fq, q1, q4, he1, q6, hm1, q7, hz]) <;> exact rfl
  · exact rfl
  · (simp only [go_sem, Try.ntmps8, hs, ok, hq, bne_self_eq_false, ha, hb, ea, eb, ka, kb, fa, fb, eq, kq, fq, q1, q4, he1, q6, hm1, q7, hz]) <;> exact rfl
  · (simp only [go_sem, Try.ntmps8, hs, ok, hq, bne_self_eq_false, ha, hb, ea, eb, ka, kb, fa, fb, eq, kq, fq, q1, q4, he1, q6, hm1, q7, hz]) <;> exact rfl
  · exact ⟨_, Try.func30, rfl, rfl⟩
  · (simp only [go_sem, Try.ntmps8, hs, ok, hq, bne_self_eq_false, ha, hb, ea, eb, ka, kb, fa, fb, eq, kq, fq, q1, q4, he1, q6, hm1, q7, hz]) <;> exact rfl
  · (simp only [go_sem, Try.ntmps8, hs, ok, hq, bne_self_eq_false, ha, hb, ea, eb, ka, kb, fa, fb, eq, kq, fq, q1, q4, he1, q6, hm1, q7, hz]) <;> exact rfl
  · exact ref_sum _ (M.ranks_wide ok) (by omega)
  apply W_pre [22, 23, 24, 25] [26, 27, 28, 29, 30, 31, 32, 33, 34]
  · (simp only [go_sem, Try.ntmps8, hs, ok, hq, bne_self_eq_false, ha, hb, ea, eb, ka, kb, fa, fb, eq, kq, fq, q1, q4, he1, q6, hm1, q7, hz]) <;> exact rfl
  apply W_pre [26, 27, 28, 29, 30, 31] [32, 33, 34]
  · (simp only [go_sem, Try.ntmps8, hs, ok, hq, bne_self_eq_false, ha, hb, ea, eb, ka, kb, fa, fb, eq, kq, fq, q1, q4, he1, q6, hm1, q7, hz]) <;> exact rfl
  apply W_call -- call 20 of function 16
  · (simp only [go_sem, Try.ntmps8, hs, ok, hq, bne_self_eq_false, ha, hb, ea, eb, ka, kb, fa, fb, eq, kq, fq, q1, q4, he1, q6, hm1, q7, hz]) <;> exact rfl
  · (simp only [go_sem, Try.ntmps8, hs, ok, hq, bne_self_eq_false, ha, hb, ea, eb, ka, kb, fa, fb, eq, kq, fq, q1, q4, he1, q6, hm1, q7, hz]) <;> exact rfl
  · exact rfl
  · (simp only [go_sem, Try.ntmps8, hs, ok, hq, bne_self_eq_false, ha, hb, ea, eb, ka, kb, fa, fb, eq, kq, fq, q1, q4, he1, q6, hm1, q7, hz]) <;> exact rfl
  · (simp only [go_sem, Try.ntmps8, hs, ok, hq, bne_self_eq_false, ha, hb, ea, eb, ka, kb, fa, fb, eq, kq, fq, q1, q4, he1, q6, hm1, q7, hz]) <;> exact rfl
  · exact ⟨_, Try.func16, rfl, rfl⟩
  · (simp only [go_sem, Try.ntmps8, hs, ok, hq, bne_self_eq_false, ha, hb, ea, eb, ka, kb, fa, fb, eq, kq, fq, q1, q4, he1, q6, hm1, q7, hz]) <;> exact rfl
  · (simp only [go_sem, Try.ntmps8, hs, ok, hq, bne_self_eq_false, ha, hb, ea, eb, ka, kb, fa, fb, eq, kq, fq, q1, q4, he1, q6, hm1, q7, hz]) <;> exact rfl
  · exact known_ok
  apply W_run
  · (simp only [go_sem, Try.ntmps8, hs, ok, hq, bne_self_eq_false, ha, hb, ea, eb, ka, kb, fa, fb, eq, kq, fq, q1, q4, he1, q6, hm1, q7, hz]) <;> exact rfl
  apply W_nil
  apply K_seq
  apply T_ret
  apply fin_ret
  · (simp only [go_sem, Try.ntmps8, hs, ok, hq, bne_self_eq_false, ha, hb, ea, eb, ka, kb, fa, fb, eq, kq, fq, q1, q4, he1, q6, hm1, q7, hz, Try.f8]) <;> exact rfl
  -- leaf 0 (ret)
  
  all_goals rfl

theorem law_rivalsH (t : Town) (q a b : List Int) (hs : M.Short t) (ok : M.Ok t) (hq : M.plan t q = true) (hBest : M.least (fun p => (M.sum (M.ranks t p), 0)) (M.plans t) = some (a, (M.sum (M.ranks t a), 0))) (ha : M.plan t a = true) (aa : M.allowed t a = true) (bB : ∀ q, M.plan t q = true → M.allowed t q = true → ¬ M.sum (M.ranks t q) < M.sum (M.ranks t a) ∧ (M.sum (M.ranks t q) = M.sum (M.ranks t a) → M.before q a = false)) (hFair : M.least (fun p => (M.most (M.ranks t p), M.sum (M.ranks t p))) (M.plans t) = some (b, (M.most (M.ranks t b), M.sum (M.ranks t b)))) (hb : M.plan t b = true) (ab : M.allowed t b = true) (bF : ∀ q, M.plan t q = true → M.allowed t q = true → M.most (M.ranks t b) ≤ M.most (M.ranks t q) ∧ (M.most (M.ranks t q) = M.most (M.ranks t b) → M.sum (M.ranks t b) ≤ M.sum (M.ranks t q) ∧ (M.sum (M.ranks t q) = M.sum (M.ranks t b) → M.before q b = false))) (aq : M.allowed t q = true) (he : M.sum (M.ranks t q) = M.sum (M.ranks t a)) (hm : M.most (M.ranks t q) = M.most (M.ranks t b)) (hz : M.sum (M.ranks t q) = M.sum (M.ranks t b))  : Ret Try.prog 8 [.agg (cT t), .sl 1 (rI q)] (.bool true) := by
  have hh : t.houses.length ≤ 1000 := by have := hs.2.2.2.2.2.1; omega
  have ea : M.err t a = 0 := by simp [M.err, ok, ha, aa]
  have ka : M.rk t a = M.ranks t a := by simp [M.rk, ea]
  have fa := M.fine_ranks ok ha aa
  have la : (M.ranks t a).length = t.houses.length := by rw [M.ranks_length]; exact (M.plan_iff.1 ha).1
  have eb : M.err t b = 0 := by simp [M.err, ok, hb, ab]
  have kb : M.rk t b = M.ranks t b := by simp [M.rk, eb]
  have fb := M.fine_ranks ok hb ab
  have lb : (M.ranks t b).length = t.houses.length := by rw [M.ranks_length]; exact (M.plan_iff.1 hb).1
  have eq : M.err t q = 0 := by simp [M.err, ok, hq, aq]
  have kq : M.rk t q = M.ranks t q := by simp [M.rk, eq]
  have fq := M.fine_ranks ok hq aq
  have lq : (M.ranks t q).length = t.houses.length := by rw [M.ranks_length]; exact (M.plan_iff.1 hq).1
  obtain ⟨q1, q2⟩ := bB q hq aq
  obtain ⟨q4, q5⟩ := bF q hq aq
  have he1 : (M.sum (M.ranks t q) == M.sum (M.ranks t a)) = true := by simpa using he
  have q6 := q2 he
  obtain ⟨q7, q8⟩ := q5 hm
  have hm1 : ¬ M.most (M.ranks t b) < M.most (M.ranks t q) := by omega
  have hz1 : ¬ M.sum (M.ranks t b) < M.sum (M.ranks t q) := by omega
  have q9 := q8 hz
  apply Ret_fin (fn := Try.f8) Try.func8 rfl
  apply T_seq
  apply T_r F
  · (simp only [go_sem, Try.ntmps8, hs, ok, hq, bne_self_eq_false, ha, hb, ea, eb, ka, kb, fa, fb, eq, kq, fq, q1, q4, he1, q6, hm1, q7, hz1, q9]) <;> exact rfl
  apply K_seq
  apply T_seq
  apply T_seq
  apply T_wL F [0, 1, 2, 3, 4, 5, 6, 7, 8, 9, 10, 11, 12, 13] rfl
  apply W_pre [0] [1, 2, 3, 4, 5, 6, 7, 8, 9, 10, 11, 12, 13]
  · (simp only [go_sem, Try.ntmps8, hs, ok, hq, bne_self_eq_false, ha, hb, ea, eb, ka, kb, fa, fb, eq, kq, fq, q1, q4, he1, q6, hm1, q7, hz1, q9]) <;> exact rfl
  apply W_call -- call 0 of function 12
  · (simp only [go_sem, Try.ntmps8, hs, ok, hq, bne_self_eq_false, ha, hb, ea, eb, ka, kb, fa, fb, eq, kq, fq, q1, q4, he1, q6, hm1, q7, hz1, q9]) <;> exact rfl
  · (simp only [go_sem, Try.ntmps8, hs, ok, hq, bne_self_eq_false, ha, hb, ea, eb, ka, kb, fa, fb, eq, kq, fq, q1, q4, he1, q6, hm1, q7, hz1, q9]) <;> exact rfl
  · exact rfl
  · (simp only [go_sem, Try.ntmps8, hs, ok, hq, bne_self_eq_false, ha, hb, ea, eb, ka, kb, fa, fb, eq, kq, fq, q1, q4, he1, q6, hm1, q7, hz1, q9]) <;> exact rfl
  · (simp only [go_sem, Try.ntmps8, hs, ok, hq, bne_self_eq_false, ha, hb, ea, eb, ka, kb, fa, fb, eq, kq, fq, q1, q4, he1, q6, hm1, q7, hz1, q9]) <;> exact rfl
  · exact ⟨_, Try.func12, rfl, rfl⟩
  · (simp only [go_sem, Try.ntmps8, hs, ok, hq, bne_self_eq_false, ha, hb, ea, eb, ka, kb, fa, fb, eq, kq, fq, q1, q4, he1, q6, hm1, q7, hz1, q9]) <;> exact rfl
  · (simp only [go_sem, Try.ntmps8, hs, ok, hq, bne_self_eq_false, ha, hb, ea, eb, ka, kb, fa, fb, eq, kq, fq, q1, q4, he1, q6, hm1, q7, hz1, q9]) <;> exact rfl
  · exact law_short _
  apply W_pre [2, 3, 4] [5, 6, 7, 8, 9, 10, 11, 12, 13]
  · (simp only [go_sem, Try.ntmps8, hs, ok, hq, bne_self_eq_false, ha, hb, ea, eb, ka, kb, fa, fb, eq, kq, fq, q1, q4, he1, q6, hm1, q7, hz1, q9]) <;> exact rfl
  apply W_call -- call 1 of function 13
  · (simp only [go_sem, Try.ntmps8, hs, ok, hq, bne_self_eq_false, ha, hb, ea, eb, ka, kb, fa, fb, eq, kq, fq, q1, q4, he1, q6, hm1, q7, hz1, q9]) <;> exact rfl
  · (simp only [go_sem, Try.ntmps8, hs, ok, hq, bne_self_eq_false, ha, hb, ea, eb, ka, kb, fa, fb, eq, kq, fq, q1, q4, he1, q6, hm1, q7, hz1, q9]) <;> exact rfl
  · exact rfl
  · (simp only [go_sem, Try.ntmps8, hs, ok, hq, bne_self_eq_false, ha, hb, ea, eb, ka, kb, fa, fb, eq, kq, fq, q1, q4, he1, q6, hm1, q7, hz1, q9]) <;> exact rfl
  · (simp only [go_sem, Try.ntmps8, hs, ok, hq, bne_self_eq_false, ha, hb, ea, eb, ka, kb, fa, fb, eq, kq, fq, q1, q4, he1, q6, hm1, q7, hz1, q9]) <;> exact rfl
  · exact ⟨_, Try.func13, rfl, rfl⟩
  · (simp only [go_sem, Try.ntmps8, hs, ok, hq, bne_self_eq_false, ha, hb, ea, eb, ka, kb, fa, fb, eq, kq, fq, q1, q4, he1, q6, hm1, q7, hz1, q9]) <;> exact rfl
  · (simp only [go_sem, Try.ntmps8, hs, ok, hq, bne_self_eq_false, ha, hb, ea, eb, ka, kb, fa, fb, eq, kq, fq, q1, q4, he1, q6, hm1, q7, hz1, q9]) <;> exact rfl
  · exact ref_town _
  apply W_pre [6, 7, 8, 9, 10] [11, 12, 13]
  · (simp only [go_sem, Try.ntmps8, hs, ok, hq, bne_self_eq_false, ha, hb, ea, eb, ka, kb, fa, fb, eq, kq, fq, q1, q4, he1, q6, hm1, q7, hz1, q9]) <;> exact rfl
  apply W_call -- call 2 of function 14
  · (simp only [go_sem, Try.ntmps8, hs, ok, hq, bne_self_eq_false, ha, hb, ea, eb, ka, kb, fa, fb, eq, kq, fq, q1, q4, he1, q6, hm1, q7, hz1, q9]) <;> exact rfl
  · (simp only [go_sem, Try.ntmps8, hs, ok, hq, bne_self_eq_false, ha, hb, ea, eb, ka, kb, fa, fb, eq, kq, fq, q1, q4, he1, q6, hm1, q7, hz1, q9]) <;> exact rfl
  · exact rfl
  · (simp only [go_sem, Try.ntmps8, hs, ok, hq, bne_self_eq_false, ha, hb, ea, eb, ka, kb, fa, fb, eq, kq, fq, q1, q4, he1, q6, hm1, q7, hz1, q9]) <;> exact rfl
  · (simp only [go_sem, Try.ntmps8, hs, ok, hq, bne_self_eq_false, ha, hb, ea, eb, ka, kb, fa, fb, eq, kq, fq, q1, q4, he1, q6, hm1, q7, hz1, q9]) <;> exact rfl
  · exact ⟨_, Try.func14, rfl, rfl⟩
  · (simp only [go_sem, Try.ntmps8, hs, ok, hq, bne_self_eq_false, ha, hb, ea, eb, ka, kb, fa, fb, eq, kq, fq, q1, q4, he1, q6, hm1, q7, hz1, q9]) <;> exact rfl
  · (simp only [go_sem, Try.ntmps8, hs, ok, hq, bne_self_eq_false, ha, hb, ea, eb, ka, kb, fa, fb, eq, kq, fq, q1, q4, he1, q6, hm1, q7, hz1, q9]) <;> exact rfl
  · exact ref_plan _ _
  apply W_run
  · (simp only [go_sem, Try.ntmps8, hs, ok, hq, bne_self_eq_false, ha, hb, ea, eb, ka, kb, fa, fb, eq, kq, fq, q1, q4, he1, q6, hm1, q7, hz1, q9]) <;> exact rfl
  apply W_nil
  apply K_seq
  apply T_ifF -- h0
  · (simp only [go_sem, Try.ntmps8, hs, ok, hq, bne_self_eq_false, ha, hb, ea, eb, ka, kb, fa, fb, eq, kq, fq, q1, q4, he1, q6, hm1, q7, hz1, q9]) <;> exact rfl
  apply T_skip
  apply K_seq
  apply T_seq
  apply T_wL F [0, 1, 2, 3, 4, 5, 6, 7, 8] rfl
  apply W_pre [0] [1, 2, 3, 4, 5, 6, 7, 8]
  · (simp only [go_sem, Try.ntmps8, hs, ok, hq, bne_self_eq_false, ha, hb, ea, eb, ka, kb, fa, fb, eq, kq, fq, q1, q4, he1, q6, hm1, q7, hz1, q9]) <;> exact rfl
  apply W_call -- call 3 of function 26
  · (simp only [go_sem, Try.ntmps8, hs, ok, hq, bne_self_eq_false, ha, hb, ea, eb, ka, kb, fa, fb, eq, kq, fq, q1, q4, he1, q6, hm1, q7, hz1, q9]) <;> exact rfl
  · (simp only [go_sem, Try.ntmps8, hs, ok, hq, bne_self_eq_false, ha, hb, ea, eb, ka, kb, fa, fb, eq, kq, fq, q1, q4, he1, q6, hm1, q7, hz1, q9]) <;> exact rfl
  · exact rfl
  · (simp only [go_sem, Try.ntmps8, hs, ok, hq, bne_self_eq_false, ha, hb, ea, eb, ka, kb, fa, fb, eq, kq, fq, q1, q4, he1, q6, hm1, q7, hz1, q9]) <;> exact rfl
  · (simp only [go_sem, Try.ntmps8, hs, ok, hq, bne_self_eq_false, ha, hb, ea, eb, ka, kb, fa, fb, eq, kq, fq, q1, q4, he1, q6, hm1, q7, hz1, q9]) <;> exact rfl
  · exact ⟨_, Try.func26, rfl, rfl⟩
  · (simp only [go_sem, Try.ntmps8, hs, ok, hq, bne_self_eq_false, ha, hb, ea, eb, ka, kb, fa, fb, eq, kq, fq, q1, q4, he1, q6, hm1, q7, hz1, q9]) <;> exact rfl
  · (simp only [go_sem, Try.ntmps8, hs, ok, hq, bne_self_eq_false, ha, hb, ea, eb, ka, kb, fa, fb, eq, kq, fq, q1, q4, he1, q6, hm1, q7, hz1, q9]) <;> exact rfl
  · exact mv_BestC t hh ok a _ hBest
  apply W_pre [2, 3, 4, 5] [6, 7, 8]
  · (simp only [go_sem, Try.ntmps8, hs, ok, hq, bne_self_eq_false, ha, hb, ea, eb, ka, kb, fa, fb, eq, kq, fq, q1, q4, he1, q6, hm1, q7, hz1, q9]) <;> exact rfl
  apply W_run
  · (simp only [go_sem, Try.ntmps8, hs, ok, hq, bne_self_eq_false, ha, hb, ea, eb, ka, kb, fa, fb, eq, kq, fq, q1, q4, he1, q6, hm1, q7, hz1, q9]) <;> exact rfl
  apply W_nil
  apply K_seq
  apply T_seq
  apply T_wL F [0, 1, 2, 3, 4, 5, 6, 7, 8] rfl
  apply W_pre [0] [1, 2, 3, 4, 5, 6, 7, 8]
  · (simp only [go_sem, Try.ntmps8, hs, ok, hq, bne_self_eq_false, ha, hb, ea, eb, ka, kb, fa, fb, eq, kq, fq, q1, q4, he1, q6, hm1, q7, hz1, q9]) <;> exact rfl
  apply W_call -- call 4 of function 27
  · (simp only [go_sem, Try.ntmps8, hs, ok, hq, bne_self_eq_false, ha, hb, ea, eb, ka, kb, fa, fb, eq, kq, fq, q1, q4, he1, q6, hm1, q7, hz1, q9]) <;> exact rfl
  · (simp only [go_sem, Try.ntmps8, hs, ok, hq, bne_self_eq_false, ha, hb, ea, eb, ka, kb, fa, fb, eq, kq, fq, q1, q4, he1, q6, hm1, q7, hz1, q9]) <;> exact rfl
  · exact rfl
  · (simp only [go_sem, Try.ntmps8, hs, ok, hq, bne_self_eq_false, ha, hb, ea, eb, ka, kb, fa, fb, eq, kq, fq, q1, q4, he1, q6, hm1, q7, hz1, q9]) <;> exact rfl
  · (simp only [go_sem, Try.ntmps8, hs, ok, hq, bne_self_eq_false, ha, hb, ea, eb, ka, kb, fa, fb, eq, kq, fq, q1, q4, he1, q6, hm1, q7, hz1, q9]) <;> exact rfl
  · exact ⟨_, Try.func27, rfl, rfl⟩
  · (simp only [go_sem, Try.ntmps8, hs, ok, hq, bne_self_eq_false, ha, hb, ea, eb, ka, kb, fa, fb, eq, kq, fq, q1, q4, he1, q6, hm1, q7, hz1, q9]) <;> exact rfl
  · (simp only [go_sem, Try.ntmps8, hs, ok, hq, bne_self_eq_false, ha, hb, ea, eb, ka, kb, fa, fb, eq, kq, fq, q1, q4, he1, q6, hm1, q7, hz1, q9]) <;> exact rfl
  · exact mv_FairestC t hh ok b _ hFair
  apply W_pre [2, 3, 4, 5] [6, 7, 8]
  · (simp only [go_sem, Try.ntmps8, hs, ok, hq, bne_self_eq_false, ha, hb, ea, eb, ka, kb, fa, fb, eq, kq, fq, q1, q4, he1, q6, hm1, q7, hz1, q9]) <;> exact rfl
  apply W_run
  · (simp only [go_sem, Try.ntmps8, hs, ok, hq, bne_self_eq_false, ha, hb, ea, eb, ka, kb, fa, fb, eq, kq, fq, q1, q4, he1, q6, hm1, q7, hz1, q9]) <;> exact rfl
  apply W_nil
  apply K_seq
  apply T_seq
  apply T_wL F [0, 1, 2, 3, 4, 5, 6, 7] rfl
  apply W_pre [0, 1] [2, 3, 4, 5, 6, 7]
  · (simp only [go_sem, Try.ntmps8, hs, ok, hq, bne_self_eq_false, ha, hb, ea, eb, ka, kb, fa, fb, eq, kq, fq, q1, q4, he1, q6, hm1, q7, hz1, q9]) <;> exact rfl
  apply W_call -- call 5 of function 34
  · (simp only [go_sem, Try.ntmps8, hs, ok, hq, bne_self_eq_false, ha, hb, ea, eb, ka, kb, fa, fb, eq, kq, fq, q1, q4, he1, q6, hm1, q7, hz1, q9]) <;> exact rfl
  · (simp only [go_sem, Try.ntmps8, hs, ok, hq, bne_self_eq_false, ha, hb, ea, eb, ka, kb, fa, fb, eq, kq, fq, q1, q4, he1, q6, hm1, q7, hz1, q9]) <;> exact rfl
  · exact rfl
  · (simp only [go_sem, Try.ntmps8, hs, ok, hq, bne_self_eq_false, ha, hb, ea, eb, ka, kb, fa, fb, eq, kq, fq, q1, q4, he1, q6, hm1, q7, hz1, q9]) <;> exact rfl
  · (simp only [go_sem, Try.ntmps8, hs, ok, hq, bne_self_eq_false, ha, hb, ea, eb, ka, kb, fa, fb, eq, kq, fq, q1, q4, he1, q6, hm1, q7, hz1, q9]) <;> exact rfl
  · exact ⟨_, Try.func34, rfl, rfl⟩
  · (simp only [go_sem, Try.ntmps8, hs, ok, hq, bne_self_eq_false, ha, hb, ea, eb, ka, kb, fa, fb, eq, kq, fq, q1, q4, he1, q6, hm1, q7, hz1, q9]) <;> exact rfl
  · (simp only [go_sem, Try.ntmps8, hs, ok, hq, bne_self_eq_false, ha, hb, ea, eb, ka, kb, fa, fb, eq, kq, fq, q1, q4, he1, q6, hm1, q7, hz1, q9]) <;> exact rfl
  · exact mv_RanksAll (by omega)
  apply W_run
  · (simp only [go_sem, Try.ntmps8, hs, ok, hq, bne_self_eq_false, ha, hb, ea, eb, ka, kb, fa, fb, eq, kq, fq, q1, q4, he1, q6, hm1, q7, hz1, q9]) <;> exact rfl
  apply W_nil
  apply K_seq
  apply T_seq
  apply T_seq
  apply T_r F
  · (simp only [go_sem, Try.ntmps8, hs, ok, hq, bne_self_eq_false, ha, hb, ea, eb, ka, kb, fa, fb, eq, kq, fq, q1, q4, he1, q6, hm1, q7, hz1, q9]) <;> exact rfl
  apply K_seq
  apply T_ifF -- h1
  · (simp only [go_sem, Try.ntmps8, hs, ok, hq, bne_self_eq_false, ha, hb, ea, eb, ka, kb, fa, fb, eq, kq, fq, q1, q4, he1, q6, hm1, q7, hz1, q9]) <;> exact rfl
  apply T_skip
  apply K_seq
  apply T_seq
  apply T_seq
  apply T_wL F [0, 1, 2, 3, 4, 5, 6, 7, 8, 9, 10, 11, 12, 13] rfl
  apply W_pre [0, 1, 2, 3, 4] [5, 6, 7, 8, 9, 10, 11, 12, 13]
  · (simp only [go_sem, Try.ntmps8, hs, ok, hq, bne_self_eq_false, ha, hb, ea, eb, ka, kb, fa, fb, eq, kq, fq, q1, q4, he1, q6, hm1, q7, hz1, q9]) <;> exact rfl
  apply W_call -- call 6 of function 14
  · (simp only [go_sem, Try.ntmps8, hs, ok, hq, bne_self_eq_false, ha, hb, ea, eb, ka, kb, fa, fb, eq, kq, fq, q1, q4, he1, q6, hm1, q7, hz1, q9]) <;> exact rfl
  · (simp only [go_sem, Try.ntmps8, hs, ok, hq, bne_self_eq_false, ha, hb, ea, eb, ka, kb, fa, fb, eq, kq, fq, q1, q4, he1, q6, hm1, q7, hz1, q9]) <;> exact rfl
  · exact rfl
  · (simp only [go_sem, Try.ntmps8, hs, ok, hq, bne_self_eq_false, ha, hb, ea, eb, ka, kb, fa, fb, eq, kq, fq, q1, q4, he1, q6, hm1, q7, hz1, q9]) <;> exact rfl
  · (simp only [go_sem, Try.ntmps8, hs, ok, hq, bne_self_eq_false, ha, hb, ea, eb, ka, kb, fa, fb, eq, kq, fq, q1, q4, he1, q6, hm1, q7, hz1, q9]) <;> exact rfl
  · exact ⟨_, Try.func14, rfl, rfl⟩
  · (simp only [go_sem, Try.ntmps8, hs, ok, hq, bne_self_eq_false, ha, hb, ea, eb, ka, kb, fa, fb, eq, kq, fq, q1, q4, he1, q6, hm1, q7, hz1, q9]) <;> exact rfl
  · (simp only [go_sem, Try.ntmps8, hs, ok, hq, bne_self_eq_false, ha, hb, ea, eb, ka, kb, fa, fb, eq, kq, fq, q1, q4, he1, q6, hm1, q7, hz1, q9]) <;> exact rfl
  · exact ref_plan _ _
  apply W_pre [6, 7, 8, 9, 10] [11, 12, 13]
  · (simp only [go_sem, Try.ntmps8, hs, ok, hq, bne_self_eq_false, ha, hb, ea, eb, ka, kb, fa, fb, eq, kq, fq, q1, q4, he1, q6, hm1, q7, hz1, q9]) <;> exact rfl
  apply W_call -- call 7 of function 14
  · (simp only [go_sem, Try.ntmps8, hs, ok, hq, bne_self_eq_false, ha, hb, ea, eb, ka, kb, fa, fb, eq, kq, fq, q1, q4, he1, q6, hm1, q7, hz1, q9]) <;> exact rfl
  · (simp only [go_sem, Try.ntmps8, hs, ok, hq, bne_self_eq_false, ha, hb, ea, eb, ka, kb, fa, fb, eq, kq, fq, q1, q4, he1, q6, hm1, q7, hz1, q9]) <;> exact rfl
  · exact rfl
  · (simp only [go_sem, Try.ntmps8, hs, ok, hq, bne_self_eq_false, ha, hb, ea, eb, ka, kb, fa, fb, eq, kq, fq, q1, q4, he1, q6, hm1, q7, hz1, q9]) <;> exact rfl
  · (simp only [go_sem, Try.ntmps8, hs, ok, hq, bne_self_eq_false, ha, hb, ea, eb, ka, kb, fa, fb, eq, kq, fq, q1, q4, he1, q6, hm1, q7, hz1, q9]) <;> exact rfl
  · exact ⟨_, Try.func14, rfl, rfl⟩
  · (simp only [go_sem, Try.ntmps8, hs, ok, hq, bne_self_eq_false, ha, hb, ea, eb, ka, kb, fa, fb, eq, kq, fq, q1, q4, he1, q6, hm1, q7, hz1, q9]) <;> exact rfl
  · (simp only [go_sem, Try.ntmps8, hs, ok, hq, bne_self_eq_false, ha, hb, ea, eb, ka, kb, fa, fb, eq, kq, fq, q1, q4, he1, q6, hm1, q7, hz1, q9]) <;> exact rfl
  · exact ref_plan _ _
  apply W_run
  · (simp only [go_sem, Try.ntmps8, hs, ok, hq, bne_self_eq_false, ha, hb, ea, eb, ka, kb, fa, fb, eq, kq, fq, q1, q4, he1, q6, hm1, q7, hz1, q9]) <;> exact rfl
  apply W_nil
  apply K_seq
  apply T_ifF -- h2
  · (simp only [go_sem, Try.ntmps8, hs, ok, hq, bne_self_eq_false, ha, hb, ea, eb, ka, kb, fa, fb, eq, kq, fq, q1, q4, he1, q6, hm1, q7, hz1, q9]) <;> exact rfl
  apply T_skip
  apply K_seq
  apply T_seq
  apply T_wL F [0, 1, 2, 3, 4, 5, 6, 7] rfl
  apply W_pre [0, 1] [2, 3, 4, 5, 6, 7]
  · (simp only [go_sem, Try.ntmps8, hs, ok, hq, bne_self_eq_false, ha, hb, ea, eb, ka, kb, fa, fb, eq, kq, fq, q1, q4, he1, q6, hm1, q7, hz1, q9]) <;> exact rfl
  apply W_call -- call 8 of function 34
  · (simp only [go_sem, Try.ntmps8, hs, ok, hq, bne_self_eq_false, ha, hb, ea, eb, ka, kb, fa, fb, eq, kq, fq, q1, q4, he1, q6, hm1, q7, hz1, q9]) <;> exact rfl
  · (simp only [go_sem, Try.ntmps8, hs, ok, hq, bne_self_eq_false, ha, hb, ea, eb, ka, kb, fa, fb, eq, kq, fq, q1, q4, he1, q6, hm1, q7, hz1, q9]) <;> exact rfl
  · exact rfl
  · (simp only [go_sem, Try.ntmps8, hs, ok, hq, bne_self_eq_false, ha, hb, ea, eb, ka, kb, fa, fb, eq, kq, fq, q1, q4, he1, q6, hm1, q7, hz1, q9]) <;> exact rfl
  · (simp only [go_sem, Try.ntmps8, hs, ok, hq, bne_self_eq_false, ha, hb, ea, eb, ka, kb, fa, fb, eq, kq, fq, q1, q4, he1, q6, hm1, q7, hz1, q9]) <;> exact rfl
  · exact ⟨_, Try.func34, rfl, rfl⟩
  · (simp only [go_sem, Try.ntmps8, hs, ok, hq, bne_self_eq_false, ha, hb, ea, eb, ka, kb, fa, fb, eq, kq, fq, q1, q4, he1, q6, hm1, q7, hz1, q9]) <;> exact rfl
  · (simp only [go_sem, Try.ntmps8, hs, ok, hq, bne_self_eq_false, ha, hb, ea, eb, ka, kb, fa, fb, eq, kq, fq, q1, q4, he1, q6, hm1, q7, hz1, q9]) <;> exact rfl
  · exact mv_RanksAll (by omega)
  apply W_run
  · (simp only [go_sem, Try.ntmps8, hs, ok, hq, bne_self_eq_false, ha, hb, ea, eb, ka, kb, fa, fb, eq, kq, fq, q1, q4, he1, q6, hm1, q7, hz1, q9]) <;> exact rfl
  apply W_nil
  apply K_seq
  apply T_seq
  apply T_wL F [0, 1, 2, 3, 4, 5, 6, 7] rfl
  apply W_pre [0, 1] [2, 3, 4, 5, 6, 7]
  · (simp only [go_sem, Try.ntmps8, hs, ok, hq, bne_self_eq_false, ha, hb, ea, eb, ka, kb, fa, fb, eq, kq, fq, q1, q4, he1, q6, hm1, q7, hz1, q9]) <;> exact rfl
  apply W_call -- call 9 of function 34
  · (simp only [go_sem, Try.ntmps8, hs, ok, hq, bne_self_eq_false, ha, hb, ea, eb, ka, kb, fa, fb, eq, kq, fq, q1, q4, he1, q6, hm1, q7, hz1, q9]) <;> exact rfl
  · (simp only [go_sem, Try.ntmps8, hs, ok, hq, bne_self_eq_false, ha, hb, ea, eb, ka, kb, fa, fb, eq, kq, fq, q1, q4, he1, q6, hm1, q7, hz1, q9]) <;> exact rfl
  · exact rfl
  · (simp only [go_sem, Try.ntmps8, hs, ok, hq, bne_self_eq_false, ha, hb, ea, eb, ka, kb, fa, fb, eq, kq, fq, q1, q4, he1, q6, hm1, q7, hz1, q9]) <;> exact rfl
  · (simp only [go_sem, Try.ntmps8, hs, ok, hq, bne_self_eq_false, ha, hb, ea, eb, ka, kb, fa, fb, eq, kq, fq, q1, q4, he1, q6, hm1, q7, hz1, q9]) <;> exact rfl
  · exact ⟨_, Try.func34, rfl, rfl⟩
  · (simp only [go_sem, Try.ntmps8, hs, ok, hq, bne_self_eq_false, ha, hb, ea, eb, ka, kb, fa, fb, eq, kq, fq, q1, q4, he1, q6, hm1, q7, hz1, q9]) <;> exact rfl
  · (simp only [go_sem, Try.ntmps8, hs, ok, hq, bne_self_eq_false, ha, hb, ea, eb, ka, kb, fa, fb, eq, kq, fq, q1, q4, he1, q6, hm1, q7, hz1, q9]) <;> exact rfl
  · exact mv_RanksAll (by omega)
  apply W_run
  · (simp only [go_sem, Try.ntmps8, hs, ok, hq, bne_self_eq_false, ha, hb, ea, eb, ka, kb, fa, fb, eq, kq, fq, q1, q4, he1, q6, hm1, q7, hz1, q9]) <;> exact rfl
  apply W_nil
  apply K_seq
  apply T_seq
  apply T_seq
  apply T_wL F [0, 1, 2, 3, 4, 5, 6, 7, 8, 9, 10, 11, 12, 13, 14, 15, 16, 17, 18, 19, 20, 21, 22, 23, 24, 25, 26, 27, 28, 29] rfl
  apply W_pre [0, 1, 2, 3] [4, 5, 6, 7, 8, 9, 10, 11, 12, 13, 14, 15, 16, 17, 18, 19, 20, 21, 22, 23, 24, 25, 26, 27, 28, 29]
  · (simp only [go_sem, Try.ntmps8, hs, ok, hq, bne_self_eq_false, ha, hb, ea, eb, ka, kb, fa, fb, eq, kq, fq, q1, q4, he1, q6, hm1, q7, hz1, q9]) <;> exact rfl
  apply W_pre [4, 5, 6, 7, 8] [9, 10, 11, 12, 13, 14, 15, 16, 17, 18, 19, 20, 21, 22, 23, 24, 25, 26, 27, 28, 29]
  · (simp only [go_sem, Try.ntmps8, hs, ok, hq, bne_self_eq_false, ha, hb, ea, eb, ka, kb, fa, fb, eq, kq, fq, q1, q4, he1, q6, hm1, q7, hz1, q9]) <;> exact rfl
  apply W_call -- call 10 of function 35
  · (simp only [go_sem, Try.ntmps8, hs, ok, hq, bne_self_eq_false, ha, hb, ea, eb, ka, kb, fa, fb, eq, kq, fq, q1, q4, he1, q6, hm1, q7, hz1, q9]) <;> exact rfl
  · (simp only [go_sem, Try.ntmps8, hs, ok, hq, bne_self_eq_false, ha, hb, ea, eb, ka, kb, fa, fb, eq, kq, fq, q1, q4, he1, q6, hm1, q7, hz1, q9]) <;> exact rfl
  · exact rfl
  · (simp only [go_sem, Try.ntmps8, hs, ok, hq, bne_self_eq_false, ha, hb, ea, eb, ka, kb, fa, fb, eq, kq, fq, q1, q4, he1, q6, hm1, q7, hz1, q9]) <;> exact rfl
  · (simp only [go_sem, Try.ntmps8, hs, ok, hq, bne_self_eq_false, ha, hb, ea, eb, ka, kb, fa, fb, eq, kq, fq, q1, q4, he1, q6, hm1, q7, hz1, q9]) <;> exact rfl
  · exact ⟨_, Try.func35, rfl, rfl⟩
  · (simp only [go_sem, Try.ntmps8, hs, ok, hq, bne_self_eq_false, ha, hb, ea, eb, ka, kb, fa, fb, eq, kq, fq, q1, q4, he1, q6, hm1, q7, hz1, q9]) <;> exact rfl
  · (simp only [go_sem, Try.ntmps8, hs, ok, hq, bne_self_eq_false, ha, hb, ea, eb, ka, kb, fa, fb, eq, kq, fq, q1, q4, he1, q6, hm1, q7, hz1, q9]) <;> exact rfl
  · exact law_fine _ _
  apply W_pre [10, 11, 12, 13, 14] [15, 16, 17, 18, 19, 20, 21, 22, 23, 24, 25, 26, 27, 28, 29]
  · (simp only [go_sem, Try.ntmps8, hs, ok, hq, bne_self_eq_false, ha, hb, ea, eb, ka, kb, fa, fb, eq, kq, fq, q1, q4, he1, q6, hm1, q7, hz1, q9]) <;> exact rfl
  apply W_call -- call 11 of function 35
  · (simp only [go_sem, Try.ntmps8, hs, ok, hq, bne_self_eq_false, ha, hb, ea, eb, ka, kb, fa, fb, eq, kq, fq, q1, q4, he1, q6, hm1, q7, hz1, q9]) <;> exact rfl
  · (simp only [go_sem, Try.ntmps8, hs, ok, hq, bne_self_eq_false, ha, hb, ea, eb, ka, kb, fa, fb, eq, kq, fq, q1, q4, he1, q6, hm1, q7, hz1, q9]) <;> exact rfl
  · exact rfl
  · (simp only [go_sem, Try.ntmps8, hs, ok, hq, bne_self_eq_false, ha, hb, ea, eb, ka, kb, fa, fb, eq, kq, fq, q1, q4, he1, q6, hm1, q7, hz1, q9]) <;> exact rfl
  · (simp only [go_sem, Try.ntmps8, hs, ok, hq, bne_self_eq_false, ha, hb, ea, eb, ka, kb, fa, fb, eq, kq, fq, q1, q4, he1, q6, hm1, q7, hz1, q9]) <;> exact rfl
  · exact ⟨_, Try.func35, rfl, rfl⟩
  · (simp only [go_sem, Try.ntmps8, hs, ok, hq, bne_self_eq_false, ha, hb, ea, eb, ka, kb, fa, fb, eq, kq, fq, q1, q4, he1, q6, hm1, q7, hz1, q9]) <;> exact rfl
  · (simp only [go_sem, Try.ntmps8, hs, ok, hq, bne_self_eq_false, ha, hb, ea, eb, ka, kb, fa, fb, eq, kq, fq, q1, q4, he1, q6, hm1, q7, hz1, q9]) <;> exact rfl
  · exact law_fine _ _
  apply W_pre [16, 17, 18, 19] [20, 21, 22, 23, 24, 25, 26, 27, 28, 29]
  · (simp only [go_sem, Try.ntmps8, hs, ok, hq, bne_self_eq_false, ha, hb, ea, eb, ka, kb, fa, fb, eq, kq, fq, q1, q4, he1, q6, hm1, q7, hz1, q9]) <;> exact rfl
  apply W_call -- call 12 of function 30
  · (simp only [go_sem, Try.ntmps8, hs, ok, hq, bne_self_eq_false, ha, hb, ea, eb, ka, kb, fa, fb, eq, kq, fq, q1, q4, he1, q6, hm1, q7, hz1, q9]) <;> exact rfl
  · (simp only [go_sem, Try.ntmps8, hs, ok, hq, bne_self_eq_false, ha, hb, ea, eb, ka, kb, fa, fb, eq, kq, fq, q1, q4, he1, q6, hm1, q7, hz1, q9]) <;> exact rfl
  · exact rfl
  · (simp only [go_sem, Try.ntmps8, hs, ok, hq, bne_self_eq_false, ha, hb, ea, eb, ka, kb, fa, fb, eq, kq, fq, q1, q4, he1, q6, hm1, q7, hz1, q9]) <;> exact rfl
  · (simp only [go_sem, Try.ntmps8, hs, ok, hq, bne_self_eq_false, ha, hb, ea, eb, ka, kb, fa, fb, eq, kq, fq, q1, q4, he1, q6, hm1, q7, hz1, q9]) <;> exact rfl
  · exact ⟨_, Try.func30, rfl, rfl⟩
  · (simp only [go_sem, Try.ntmps8, hs, ok, hq, bne_self_eq_false, ha, hb, ea, eb, ka, kb, fa, fb, eq, kq, fq, q1, q4, he1, q6, hm1, q7, hz1, q9]) <;> exact rfl
  · (simp only [go_sem, Try.ntmps8, hs, ok, hq, bne_self_eq_false, ha, hb, ea, eb, ka, kb, fa, fb, eq, kq, fq, q1, q4, he1, q6, hm1, q7, hz1, q9]) <;> exact rfl
  · exact ref_sum _ (M.ranks_wide ok) (by omega)
  apply W_pre [21, 22, 23, 24, 25] [26, 27, 28, 29]
  · (simp only [go_sem, Try.ntmps8, hs, ok, hq, bne_self_eq_false, ha, hb, ea, eb, ka, kb, fa, fb, eq, kq, fq, q1, q4, he1, q6, hm1, q7, hz1, q9]) <;> exact rfl
  apply W_call -- call 13 of function 32
  · (simp only [go_sem, Try.ntmps8, hs, ok, hq, bne_self_eq_false, ha, hb, ea, eb, ka, kb, fa, fb, eq, kq, fq, q1, q4, he1, q6, hm1, q7, hz1, q9]) <;> exact rfl
  · (simp only [go_sem, Try.ntmps8, hs, ok, hq, bne_self_eq_false, ha, hb, ea, eb, ka, kb, fa, fb, eq, kq, fq, q1, q4, he1, q6, hm1, q7, hz1, q9]) <;> exact rfl
  · exact rfl
  · (simp only [go_sem, Try.ntmps8, hs, ok, hq, bne_self_eq_false, ha, hb, ea, eb, ka, kb, fa, fb, eq, kq, fq, q1, q4, he1, q6, hm1, q7, hz1, q9]) <;> exact rfl
  · (simp only [go_sem, Try.ntmps8, hs, ok, hq, bne_self_eq_false, ha, hb, ea, eb, ka, kb, fa, fb, eq, kq, fq, q1, q4, he1, q6, hm1, q7, hz1, q9]) <;> exact rfl
  · exact ⟨_, Try.func32, rfl, rfl⟩
  · (simp only [go_sem, Try.ntmps8, hs, ok, hq, bne_self_eq_false, ha, hb, ea, eb, ka, kb, fa, fb, eq, kq, fq, q1, q4, he1, q6, hm1, q7, hz1, q9]) <;> exact rfl
  · (simp only [go_sem, Try.ntmps8, hs, ok, hq, bne_self_eq_false, ha, hb, ea, eb, ka, kb, fa, fb, eq, kq, fq, q1, q4, he1, q6, hm1, q7, hz1, q9]) <;> exact rfl
  · exact ref_most _
  apply W_run
  · (simp only [go_sem, Try.ntmps8, hs, ok, hq, bne_self_eq_false, ha, hb, ea, eb, ka, kb, fa, fb, eq, kq, fq, q1, q4, he1, q6, hm1, q7, hz1, q9]) <;> exact rfl
  apply W_nil
  apply K_seq
  apply T_ifF -- h3
  · (simp only [go_sem, Try.ntmps8, hs, ok, hq, bne_self_eq_false, ha, hb, ea, eb, ka, kb, fa, fb, eq, kq, fq, q1, q4, he1, q6, hm1, q7, hz1, q9]) <;> exact rfl
  apply T_skip
  apply K_seq
  apply T_seq
  apply T_seq
  apply T_r F
  · (simp only [go_sem, Try.ntmps8, hs, ok, hq, bne_self_eq_false, ha, hb, ea, eb, ka, kb, fa, fb, eq, kq, fq, q1, q4, he1, q6, hm1, q7, hz1, q9]) <;> exact rfl
  apply K_seq
  apply T_ifF -- h4
  · (simp only [go_sem, Try.ntmps8, hs, ok, hq, bne_self_eq_false, ha, hb, ea, eb, ka, kb, fa, fb, eq, kq, fq, q1, q4, he1, q6, hm1, q7, hz1, q9]) <;> exact rfl
  apply T_skip
  apply K_seq
  apply T_seq
  apply T_seq
  apply T_wL F [0, 1, 2, 3] rfl
  apply W_pre [0, 1] [2, 3]
  · (simp only [go_sem, Try.ntmps8, hs, ok, hq, bne_self_eq_false, ha, hb, ea, eb, ka, kb, fa, fb, eq, kq, fq, q1, q4, he1, q6, hm1, q7, hz1, q9]) <;> exact rfl
  apply W_call -- call 14 of function 35
  · (simp only [go_sem, Try.ntmps8, hs, ok, hq, bne_self_eq_false, ha, hb, ea, eb, ka, kb, fa, fb, eq, kq, fq, q1, q4, he1, q6, hm1, q7, hz1, q9]) <;> exact rfl
  · (simp only [go_sem, Try.ntmps8, hs, ok, hq, bne_self_eq_false, ha, hb, ea, eb, ka, kb, fa, fb, eq, kq, fq, q1, q4, he1, q6, hm1, q7, hz1, q9]) <;> exact rfl
  · exact rfl
  · (simp only [go_sem, Try.ntmps8, hs, ok, hq, bne_self_eq_false, ha, hb, ea, eb, ka, kb, fa, fb, eq, kq, fq, q1, q4, he1, q6, hm1, q7, hz1, q9]) <;> exact rfl
  · (simp only [go_sem, Try.ntmps8, hs, ok, hq, bne_self_eq_false, ha, hb, ea, eb, ka, kb, fa, fb, eq, kq, fq, q1, q4, he1, q6, hm1, q7, hz1, q9]) <;> exact rfl
  · exact ⟨_, Try.func35, rfl, rfl⟩
  · (simp only [go_sem, Try.ntmps8, hs, ok, hq, bne_self_eq_false, ha, hb, ea, eb, ka, kb, fa, fb, eq, kq, fq, q1, q4, he1, q6, hm1, q7, hz1, q9]) <;> exact rfl
  · (simp only [go_sem, Try.ntmps8, hs, ok, hq, bne_self_eq_false, ha, hb, ea, eb, ka, kb, fa, fb, eq, kq, fq, q1, q4, he1, q6, hm1, q7, hz1, q9]) <;> exact rfl
  · exact law_fine _ _
  apply W_run
  · (simp only [go_sem, Try.ntmps8, hs, ok, hq, bne_self_eq_false, ha, hb, ea, eb, ka, kb, fa, fb, eq, kq, fq, q1, q4, he1, q6, hm1, q7, hz1, q9]) <;> exact rfl
  apply W_nil
  apply K_seq
  apply T_ifF -- h5
  · (simp only [go_sem, Try.ntmps8, hs, ok, hq, bne_self_eq_false, ha, hb, ea, eb, ka, kb, fa, fb, eq, kq, fq, q1, q4, he1, q6, hm1, q7, hz1, q9]) <;> exact rfl
  apply T_skip
  apply K_seq
  apply T_seq
  apply T_wL F [0, 1, 2, 3, 4, 5] rfl
  apply W_pre [0] [1, 2, 3, 4, 5]
  · (simp only [go_sem, Try.ntmps8, hs, ok, hq, bne_self_eq_false, ha, hb, ea, eb, ka, kb, fa, fb, eq, kq, fq, q1, q4, he1, q6, hm1, q7, hz1, q9]) <;> exact rfl
  apply W_call -- call 15 of function 30
  · (simp only [go_sem, Try.ntmps8, hs, ok, hq, bne_self_eq_false, ha, hb, ea, eb, ka, kb, fa, fb, eq, kq, fq, q1, q4, he1, q6, hm1, q7, hz1, q9]) <;> exact rfl
  · (simp only [go_sem, Try.ntmps8, hs, ok, hq, bne_self_eq_false, ha, hb, ea, eb, ka, kb, fa, fb, eq, kq, fq, q1, q4, he1, q6, hm1, q7, hz1, q9]) <;> exact rfl
  · exact rfl
  · (simp only [go_sem, Try.ntmps8, hs, ok, hq, bne_self_eq_false, ha, hb, ea, eb, ka, kb, fa, fb, eq, kq, fq, q1, q4, he1, q6, hm1, q7, hz1, q9]) <;> exact rfl
  · (simp only [go_sem, Try.ntmps8, hs, ok, hq, bne_self_eq_false, ha, hb, ea, eb, ka, kb, fa, fb, eq, kq, fq, q1, q4, he1, q6, hm1, q7, hz1, q9]) <;> exact rfl
  · exact ⟨_, Try.func30, rfl, rfl⟩
  · (simp only [go_sem, Try.ntmps8, hs, ok, hq, bne_self_eq_false, ha, hb, ea, eb, ka, kb, fa, fb, eq, kq, fq, q1, q4, he1, q6, hm1, q7, hz1, q9]) <;> exact rfl
  · (simp only [go_sem, Try.ntmps8, hs, ok, hq, bne_self_eq_false, ha, hb, ea, eb, ka, kb, fa, fb, eq, kq, fq, q1, q4, he1, q6, hm1, q7, hz1, q9]) <;> exact rfl
  · exact ref_sum _ (M.ranks_wide ok) (by omega)
  apply W_pre [2] [3, 4, 5]
  · (simp only [go_sem, Try.ntmps8, hs, ok, hq, bne_self_eq_false, ha, hb, ea, eb, ka, kb, fa, fb, eq, kq, fq, q1, q4, he1, q6, hm1, q7, hz1, q9]) <;> exact rfl
  apply W_call -- call 16 of function 32
  · (simp only [go_sem, Try.ntmps8, hs, ok, hq, bne_self_eq_false, ha, hb, ea, eb, ka, kb, fa, fb, eq, kq, fq, q1, q4, he1, q6, hm1, q7, hz1, q9]) <;> exact rfl
  · (simp only [go_sem, Try.ntmps8, hs, ok, hq, bne_self_eq_false, ha, hb, ea, eb, ka, kb, fa, fb, eq, kq, fq, q1, q4, he1, q6, hm1, q7, hz1, q9]) <;> exact rfl
  · exact rfl
  · (simp only [go_sem, Try.ntmps8, hs, ok, hq, bne_self_eq_false, ha, hb, ea, eb, ka, kb, fa, fb, eq, kq, fq, q1, q4, he1, q6, hm1, q7, hz1, q9]) <;> exact rfl
  · (simp only [go_sem, Try.ntmps8, hs, ok, hq, bne_self_eq_false, ha, hb, ea, eb, ka, kb, fa, fb, eq, kq, fq, q1, q4, he1, q6, hm1, q7, hz1, q9]) <;> exact rfl
  · exact ⟨_, Try.func32, rfl, rfl⟩
  · (simp only [go_sem, Try.ntmps8, hs, ok, hq, bne_self_eq_false, ha, hb, ea, eb, ka, kb, fa, fb, eq, kq, fq, q1, q4, he1, q6, hm1, q7, hz1, q9]) <;> exact rfl
  · (simp only [go_sem, Try.ntmps8, hs, ok, hq, bne_self_eq_false, ha, hb, ea, eb, ka, kb, fa, fb, eq, kq, fq, q1, q4, he1, q6, hm1, q7, hz1, q9]) <;> exact rfl
  · exact ref_most _
  apply W_run
  · (simp only [go_sem, Try.ntmps8, hs, ok, hq, bne_self_eq_false, ha, hb, ea, eb, ka, kb, fa, fb, eq, kq, fq, q1, q4, he1, q6, hm1, q7, hz1, q9]) <;> exact rfl
  apply W_nil
  apply K_seq
  apply T_seq
  apply T_seq
  apply T_wL F [0, 1, 2, 3, 4, 5, 6, 7, 8, 9, 10, 11, 12] rfl
  apply W_pre [0, 1, 2, 3] [4, 5, 6, 7, 8, 9, 10, 11, 12]
  · (simp only [go_sem, Try.ntmps8, hs, ok, hq, bne_self_eq_false, ha, hb, ea, eb, ka, kb, fa, fb, eq, kq, fq, q1, q4, he1, q6, hm1, q7, hz1, q9]) <;> exact rfl
  apply W_pre [4, 5, 6, 7, 8, 9] [10, 11, 12]
  · (simp only [go_sem, Try.ntmps8, hs, ok, hq, bne_self_eq_false, ha, hb, ea, eb, ka, kb, fa, fb, eq, kq, fq, q1, q4, he1, q6, hm1, q7, hz1, q9]) <;> exact rfl
  apply W_call -- call 17 of function 25
  · (simp only [go_sem, Try.ntmps8, hs, ok, hq, bne_self_eq_false, ha, hb, ea, eb, ka, kb, fa, fb, eq, kq, fq, q1, q4, he1, q6, hm1, q7, hz1, q9]) <;> exact rfl
  · (simp only [go_sem, Try.ntmps8, hs, ok, hq, bne_self_eq_false, ha, hb, ea, eb, ka, kb, fa, fb, eq, kq, fq, q1, q4, he1, q6, hm1, q7, hz1, q9]) <;> exact rfl
  · exact rfl
  · (simp only [go_sem, Try.ntmps8, hs, ok, hq, bne_self_eq_false, ha, hb, ea, eb, ka, kb, fa, fb, eq, kq, fq, q1, q4, he1, q6, hm1, q7, hz1, q9]) <;> exact rfl
  · (simp only [go_sem, Try.ntmps8, hs, ok, hq, bne_self_eq_false, ha, hb, ea, eb, ka, kb, fa, fb, eq, kq, fq, q1, q4, he1, q6, hm1, q7, hz1, q9]) <;> exact rfl
  · exact ⟨_, Try.func25, rfl, rfl⟩
  · (simp only [go_sem, Try.ntmps8, hs, ok, hq, bne_self_eq_false, ha, hb, ea, eb, ka, kb, fa, fb, eq, kq, fq, q1, q4, he1, q6, hm1, q7, hz1, q9]) <;> exact rfl
  · (simp only [go_sem, Try.ntmps8, hs, ok, hq, bne_self_eq_false, ha, hb, ea, eb, ka, kb, fa, fb, eq, kq, fq, q1, q4, he1, q6, hm1, q7, hz1, q9]) <;> exact rfl
  · exact ref_before _ _
  apply W_run
  · (simp only [go_sem, Try.ntmps8, hs, ok, hq, bne_self_eq_false, ha, hb, ea, eb, ka, kb, fa, fb, eq, kq, fq, q1, q4, he1, q6, hm1, q7, hz1, q9]) <;> exact rfl
  apply W_nil
  apply K_seq
  apply T_ifF -- h6
  · (simp only [go_sem, Try.ntmps8, hs, ok, hq, bne_self_eq_false, ha, hb, ea, eb, ka, kb, fa, fb, eq, kq, fq, q1, q4, he1, q6, hm1, q7, hz1, q9]) <;> exact rfl
  apply T_skip
  apply K_seq
  apply T_seq
  apply T_wL F [0, 1, 2, 3, 4, 5, 6, 7, 8, 9, 10, 11, 12, 13, 14, 15, 16, 17, 18, 19, 20, 21, 22, 23, 24, 25, 26, 27, 28, 29, 30, 31, 32, 33, 34] rfl
  apply W_pre [0, 1, 2, 3] [4, 5, 6, 7, 8, 9, 10, 11, 12, 13, 14, 15, 16, 17, 18, 19, 20, 21, 22, 23, 24, 25, 26, 27, 28, 29, 30, 31, 32, 33, 34]
  · (simp only [go_sem, Try.ntmps8, hs, ok, hq, bne_self_eq_false, ha, hb, ea, eb, ka, kb, fa, fb, eq, kq, fq, q1, q4, he1, q6, hm1, q7, hz1, q9]) <;> exact rfl
  apply W_pre [4, 5, 6, 7, 8, 9] [10, 11, 12, 13, 14, 15, 16, 17, 18, 19, 20, 21, 22, 23, 24, 25, 26, 27, 28, 29, 30, 31, 32, 33, 34]
  · (simp only [go_sem, Try.ntmps8, hs, ok, hq, bne_self_eq_false, ha, hb, ea, eb, ka, kb, fa, fb, eq, kq, fq, q1, q4, he1, q6, hm1, q7, hz1, q9]) <;> exact rfl
  apply W_call -- call 18 of function 30
  · (simp only [go_sem, Try.ntmps8, hs, ok, hq, bne_self_eq_false, ha, hb, ea, eb, ka, kb, fa, fb, eq, kq, fq, q1, q4, he1, q6, hm1, q7, hz1, q9]) <;> exact rfl
  · (simp only [go_sem, Try.ntmps8, hs, ok, hq, bne_self_eq_false, ha, hb, ea, eb, ka, kb, fa, fb, eq, kq, fq, q1, q4, he1, q6, hm1, q7, hz1, q9]) <;> exact rfl
  · exact rfl
  · (simp only [go_sem, Try.ntmps8, hs, ok, hq, bne_self_eq_false, ha, hb, ea, eb, ka, kb, fa, fb, eq, kq, fq, q1, q4, he1, q6, hm1, q7, hz1, q9]) <;> exact rfl
  · (simp only [go_sem, Try.ntmps8, hs, ok, hq, bne_self_eq_false, ha, hb, ea, eb, ka, kb, fa, fb, eq, kq, fq, q1, q4, he1, q6, hm1, q7, hz1, q9]) <;> exact rfl
  · exact ⟨_, Try.func30, rfl, rfl⟩
  · (simp only [go_sem, Try.ntmps8, hs, ok, hq, bne_self_eq_false, ha, hb, ea, eb, ka, kb, fa, fb, eq, kq, fq, q1, q4, he1, q6, hm1, q7, hz1, q9]) <;> exact rfl
  · (simp only [go_sem, Try.ntmps8, hs, ok, hq, bne_self_eq_false, ha, hb, ea, eb, ka, kb, fa, fb, eq, kq, fq, q1, q4, he1, q6, hm1, q7, hz1, q9]) <;> exact rfl
  · exact ref_sum _ (M.ranks_wide ok) (by omega)
  apply W_pre [11, 12, 13, 14] [15, 16, 17, 18, 19, 20, 21, 22, 23, 24, 25, 26, 27, 28, 29, 30, 31, 32, 33, 34]
  · (simp only [go_sem, Try.ntmps8, hs, ok, hq, bne_self_eq_false, ha, hb, ea, eb, ka, kb, fa, fb, eq, kq, fq, q1, q4, he1, q6, hm1, q7, hz1, q9]) <;> exact rfl
  apply W_pre [15, 16, 17, 18, 19, 20] [21, 22, 23, 24, 25, 26, 27, 28, 29, 30, 31, 32, 33, 34]
  · (simp only [go_sem, Try.ntmps8, hs, ok, hq, bne_self_eq_false, ha, hb, ea, eb, ka, kb, fa, fb, eq, kq, fq, q1, q4, he1, q6, hm1, q7, hz1, q9]) <;> exact rfl
  apply W_call -- call 19 of function 30
  · (simp only [go_sem, Try.ntmps8, hs, ok, hq, bne_self_eq_false, ha, hb, ea, eb, ka, kb, fa, fb, eq, kq, fq, q1, q4, he1, q6, hm1, q7, hz1, q9]) <;> exact rfl
  · (simp only [go_sem, Try.ntmps8, hs, ok, hq, bne_self_eq_false, ha, hb, ea, eb, ka, kb, fa, fb, eq, kq, fq, q1, q4, he1, q6, hm1, q7, hz1, q9]) <;> exact rfl
  · exact rfl
  · (simp only [go_sem, Try.ntmps8, hs, ok, hq, bne_self_eq_false, ha, hb, ea, eb, ka, kb, fa, fb, eq, kq, fq, q1, q4, he1, q6, hm1, q7, hz1, q9]) <;> exact rfl
  · (simp only [go_sem, Try.ntmps8, hs, ok, hq, bne_self_eq_false, ha, hb, ea, eb, ka, kb, fa, fb, eq, kq, fq, q1, q4, he1, q6, hm1, q7, hz1, q9]) <;> exact rfl
  · exact ⟨_, Try.func30, rfl, rfl⟩
  · (simp only [go_sem, Try.ntmps8, hs, ok, hq, bne_self_eq_false, ha, hb, ea, eb, ka, kb, fa, fb, eq, kq, fq, q1, q4, he1, q6, hm1, q7, hz1, q9]) <;> exact rfl
  · (simp only [go_sem, Try.ntmps8, hs, ok, hq, bne_self_eq_false, ha, hb, ea, eb, ka, kb, fa, fb, eq, kq, fq, q1, q4, he1, q6, hm1, q7, hz1, q9]) <;> exact rfl
  · exact ref_sum _ (M.ranks_wide ok) (by omega)
  apply W_pre [22, 23, 24, 25, 26] [27, 28, 29, 30, 31, 32, 33, 34]
  · (simp only [go_sem, Try.ntmps8, hs, ok, hq, bne_self_eq_false, ha, hb, ea, eb, ka, kb, fa, fb, eq, kq, fq, q1, q4, he1, q6, hm1, q7, hz1, q9]) <;> exact rfl
  apply W_call -- call 20 of function 25
  · (simp only [go_sem, Try.ntmps8, hs, ok, hq, bne_self_eq_false, ha, hb, ea, eb, ka, kb, fa, fb, eq, kq, fq, q1, q4, he1, q6, hm1, q7, hz1, q9]) <;> exact rfl
  · (simp only [go_sem, Try.ntmps8, hs, ok, hq, bne_self_eq_false, ha, hb, ea, eb, ka, kb, fa, fb, eq, kq, fq, q1, q4, he1, q6, hm1, q7, hz1, q9]) <;> exact rfl
  · exact rfl
  · (simp only [go_sem, Try.ntmps8, hs, ok, hq, bne_self_eq_false, ha, hb, ea, eb, ka, kb, fa, fb, eq, kq, fq, q1, q4, he1, q6, hm1, q7, hz1, q9]) <;> exact rfl
  · (simp only [go_sem, Try.ntmps8, hs, ok, hq, bne_self_eq_false, ha, hb, ea, eb, ka, kb, fa, fb, eq, kq, fq, q1, q4, he1, q6, hm1, q7, hz1, q9]) <;> exact rfl
  · exact ⟨_, Try.func25, rfl, rfl⟩
  · (simp only [go_sem, Try.ntmps8, hs, ok, hq, bne_self_eq_false, ha, hb, ea, eb, ka, kb, fa, fb, eq, kq, fq, q1, q4, he1, q6, hm1, q7, hz1, q9]) <;> exact rfl
  · (simp only [go_sem, Try.ntmps8, hs, ok, hq, bne_self_eq_false, ha, hb, ea, eb, ka, kb, fa, fb, eq, kq, fq, q1, q4, he1, q6, hm1, q7, hz1, q9]) <;> exact rfl
  · exact ref_before _ _
  apply W_pre [28, 29, 30, 31] [32, 33, 34]
  · (simp only [go_sem, Try.ntmps8, hs, ok, hq, bne_self_eq_false, ha, hb, ea, eb, ka, kb, fa, fb, eq, kq, fq, q1, q4, he1, q6, hm1, q7, hz1, q9]) <;> exact rfl
  apply W_call -- call 21 of function 16
  · (simp only [go_sem, Try.ntmps8, hs, ok, hq, bne_self_eq_false, ha, hb, ea, eb, ka, kb, fa, fb, eq, kq, fq, q1, q4, he1, q6, hm1, q7, hz1, q9]) <;> exact rfl
  · (simp only [go_sem, Try.ntmps8, hs, ok, hq, bne_self_eq_false, ha, hb, ea, eb, ka, kb, fa, fb, eq, kq, fq, q1, q4, he1, q6, hm1, q7, hz1, q9]) <;> exact rfl
  · exact rfl
  · (simp only [go_sem, Try.ntmps8, hs, ok, hq, bne_self_eq_false, ha, hb, ea, eb, ka, kb, fa, fb, eq, kq, fq, q1, q4, he1, q6, hm1, q7, hz1, q9]) <;> exact rfl
  · (simp only [go_sem, Try.ntmps8, hs, ok, hq, bne_self_eq_false, ha, hb, ea, eb, ka, kb, fa, fb, eq, kq, fq, q1, q4, he1, q6, hm1, q7, hz1, q9]) <;> exact rfl
  · exact ⟨_, Try.func16, rfl, rfl⟩
  · (simp only [go_sem, Try.ntmps8, hs, ok, hq, bne_self_eq_false, ha, hb, ea, eb, ka, kb, fa, fb, eq, kq, fq, q1, q4, he1, q6, hm1, q7, hz1, q9]) <;> exact rfl
  · (simp only [go_sem, Try.ntmps8, hs, ok, hq, bne_self_eq_false, ha, hb, ea, eb, ka, kb, fa, fb, eq, kq, fq, q1, q4, he1, q6, hm1, q7, hz1, q9]) <;> exact rfl
  · exact known_ok
  apply W_run
  · (simp only [go_sem, Try.ntmps8, hs, ok, hq, bne_self_eq_false, ha, hb, ea, eb, ka, kb, fa, fb, eq, kq, fq, q1, q4, he1, q6, hm1, q7, hz1, q9]) <;> exact rfl
  apply W_nil
  apply K_seq
  apply T_ret
  apply fin_ret
  · (simp only [go_sem, Try.ntmps8, hs, ok, hq, bne_self_eq_false, ha, hb, ea, eb, ka, kb, fa, fb, eq, kq, fq, q1, q4, he1, q6, hm1, q7, hz1, q9, Try.f8]) <;> exact rfl
  -- leaf 0 (ret)
  
  all_goals rfl

theorem law_rivalsI (t : Town) (q a b : List Int) (hs : M.Short t) (ok : M.Ok t) (hq : M.plan t q = true) (hBest : M.least (fun p => (M.sum (M.ranks t p), 0)) (M.plans t) = some (a, (M.sum (M.ranks t a), 0))) (ha : M.plan t a = true) (aa : M.allowed t a = true) (bB : ∀ q, M.plan t q = true → M.allowed t q = true → ¬ M.sum (M.ranks t q) < M.sum (M.ranks t a) ∧ (M.sum (M.ranks t q) = M.sum (M.ranks t a) → M.before q a = false)) (hFair : M.least (fun p => (M.most (M.ranks t p), M.sum (M.ranks t p))) (M.plans t) = some (b, (M.most (M.ranks t b), M.sum (M.ranks t b)))) (hb : M.plan t b = true) (ab : M.allowed t b = true) (bF : ∀ q, M.plan t q = true → M.allowed t q = true → M.most (M.ranks t b) ≤ M.most (M.ranks t q) ∧ (M.most (M.ranks t q) = M.most (M.ranks t b) → M.sum (M.ranks t b) ≤ M.sum (M.ranks t q) ∧ (M.sum (M.ranks t q) = M.sum (M.ranks t b) → M.before q b = false))) (aq : M.allowed t q = true) (he : (M.sum (M.ranks t q) == M.sum (M.ranks t a)) = false) (hm : M.most (M.ranks t b) < M.most (M.ranks t q))  : Ret Try.prog 8 [.agg (cT t), .sl 1 (rI q)] (.bool true) := by
  have hh : t.houses.length ≤ 1000 := by have := hs.2.2.2.2.2.1; omega
  have ea : M.err t a = 0 := by simp [M.err, ok, ha, aa]
  have ka : M.rk t a = M.ranks t a := by simp [M.rk, ea]
  have fa := M.fine_ranks ok ha aa
  have la : (M.ranks t a).length = t.houses.length := by rw [M.ranks_length]; exact (M.plan_iff.1 ha).1
  have eb : M.err t b = 0 := by simp [M.err, ok, hb, ab]
  have kb : M.rk t b = M.ranks t b := by simp [M.rk, eb]
  have fb := M.fine_ranks ok hb ab
  have lb : (M.ranks t b).length = t.houses.length := by rw [M.ranks_length]; exact (M.plan_iff.1 hb).1
  have eq : M.err t q = 0 := by simp [M.err, ok, hq, aq]
  have kq : M.rk t q = M.ranks t q := by simp [M.rk, eq]
  have fq := M.fine_ranks ok hq aq
  have lq : (M.ranks t q).length = t.houses.length := by rw [M.ranks_length]; exact (M.plan_iff.1 hq).1
  obtain ⟨q1, q2⟩ := bB q hq aq
  obtain ⟨q4, q5⟩ := bF q hq aq
  apply Ret_fin (fn := Try.f8) Try.func8 rfl
  apply T_seq
  apply T_r F
  · (simp only [go_sem, Try.ntmps8, hs, ok, hq, bne_self_eq_false, ha, hb, ea, eb, ka, kb, fa, fb, eq, kq, fq, q1, q4, he, hm]) <;> exact rfl
  apply K_seq
  apply T_seq
  apply T_seq
  apply T_wL F [0, 1, 2, 3, 4, 5, 6, 7, 8, 9, 10, 11, 12, 13] rfl
  apply W_pre [0] [1, 2, 3, 4, 5, 6, 7, 8, 9, 10, 11, 12, 13]
  · (simp only [go_sem, Try.ntmps8, hs, ok, hq, bne_self_eq_false, ha, hb, ea, eb, ka, kb, fa, fb, eq, kq, fq, q1, q4, he, hm]) <;> exact rfl
  apply W_call -- call 0 of function 12
  · (simp only [go_sem, Try.ntmps8, hs, ok, hq, bne_self_eq_false, ha, hb, ea, eb, ka, kb, fa, fb, eq, kq, fq, q1, q4, he, hm]) <;> exact rfl
  · (simp only [go_sem, Try.ntmps8, hs, ok, hq, bne_self_eq_false, ha, hb, ea, eb, ka, kb, fa, fb, eq, kq, fq, q1, q4, he, hm]) <;> exact rfl
  · exact rfl
  · (simp only [go_sem, Try.ntmps8, hs, ok, hq, bne_self_eq_false, ha, hb, ea, eb, ka, kb, fa, fb, eq, kq, fq, q1, q4, he, hm]) <;> exact rfl
  · (simp only [go_sem, Try.ntmps8, hs, ok, hq, bne_self_eq_false, ha, hb, ea, eb, ka, kb, fa, fb, eq, kq, fq, q1, q4, he, hm]) <;> exact rfl
  · exact ⟨_, Try.func12, rfl, rfl⟩
  · (simp only [go_sem, Try.ntmps8, hs, ok, hq, bne_self_eq_false, ha, hb, ea, eb, ka, kb, fa, fb, eq, kq, fq, q1, q4, he, hm]) <;> exact rfl
  · (simp only [go_sem, Try.ntmps8, hs, ok, hq, bne_self_eq_false, ha, hb, ea, eb, ka, kb, fa, fb, eq, kq, fq, q1, q4, he, hm]) <;> exact rfl
  · exact law_short _
  apply W_pre [2, 3, 4] [5, 6, 7, 8, 9, 10, 11, 12, 13]
  · (simp only [go_sem, Try.ntmps8, hs, ok, hq, bne_self_eq_false, ha, hb, ea, eb, ka, kb, fa, fb, eq, kq, fq, q1, q4, he, hm]) <;> exact rfl
  apply W_call -- call 1 of function 13
  · (simp only [go_sem, Try.ntmps8, hs, ok, hq, bne_self_eq_false, ha, hb, ea, eb, ka, kb, fa, fb, eq, kq, fq, q1, q4, he, hm]) <;> exact rfl
  · (simp only [go_sem, Try.ntmps8, hs, ok, hq, bne_self_eq_false, ha, hb, ea, eb, ka, kb, fa, fb, eq, kq, fq, q1, q4, he, hm]) <;> exact rfl
  · exact rfl
  · (simp only [go_sem, Try.ntmps8, hs, ok, hq, bne_self_eq_false, ha, hb, ea, eb, ka, kb, fa, fb, eq, kq, fq, q1, q4, he, hm]) <;> exact rfl
  · (simp only [go_sem, Try.ntmps8, hs, ok, hq, bne_self_eq_false, ha, hb, ea, eb, ka, kb, fa, fb, eq, kq, fq, q1, q4, he, hm]) <;> exact rfl
  · exact ⟨_, Try.func13, rfl, rfl⟩
  · (simp only [go_sem, Try.ntmps8, hs, ok, hq, bne_self_eq_false, ha, hb, ea, eb, ka, kb, fa, fb, eq, kq, fq, q1, q4, he, hm]) <;> exact rfl
  · (simp only [go_sem, Try.ntmps8, hs, ok, hq, bne_self_eq_false, ha, hb, ea, eb, ka, kb, fa, fb, eq, kq, fq, q1, q4, he, hm]) <;> exact rfl
  · exact ref_town _
  apply W_pre [6, 7, 8, 9, 10] [11, 12, 13]
  · (simp only [go_sem, Try.ntmps8, hs, ok, hq, bne_self_eq_false, ha, hb, ea, eb, ka, kb, fa, fb, eq, kq, fq, q1, q4, he, hm]) <;> exact rfl
  apply W_call -- call 2 of function 14
  · (simp only [go_sem, Try.ntmps8, hs, ok, hq, bne_self_eq_false, ha, hb, ea, eb, ka, kb, fa, fb, eq, kq, fq, q1, q4, he, hm]) <;> exact rfl
  · (simp only [go_sem, Try.ntmps8, hs, ok, hq, bne_self_eq_false, ha, hb, ea, eb, ka, kb, fa, fb, eq, kq, fq, q1, q4, he, hm]) <;> exact rfl
  · exact rfl
  · (simp only [go_sem, Try.ntmps8, hs, ok, hq, bne_self_eq_false, ha, hb, ea, eb, ka, kb, fa, fb, eq, kq, fq, q1, q4, he, hm]) <;> exact rfl
  · (simp only [go_sem, Try.ntmps8, hs, ok, hq, bne_self_eq_false, ha, hb, ea, eb, ka, kb, fa, fb, eq, kq, fq, q1, q4, he, hm]) <;> exact rfl
  · exact ⟨_, Try.func14, rfl, rfl⟩
  · (simp only [go_sem, Try.ntmps8, hs, ok, hq, bne_self_eq_false, ha, hb, ea, eb, ka, kb, fa, fb, eq, kq, fq, q1, q4, he, hm]) <;> exact rfl
  · (simp only [go_sem, Try.ntmps8, hs, ok, hq, bne_self_eq_false, ha, hb, ea, eb, ka, kb, fa, fb, eq, kq, fq, q1, q4, he, hm]) <;> exact rfl
  · exact ref_plan _ _
  apply W_run
  · (simp only [go_sem, Try.ntmps8, hs, ok, hq, bne_self_eq_false, ha, hb, ea, eb, ka, kb, fa, fb, eq, kq, fq, q1, q4, he, hm]) <;> exact rfl
  apply W_nil
  apply K_seq
  apply T_ifF -- h0
  · (simp only [go_sem, Try.ntmps8, hs, ok, hq, bne_self_eq_false, ha, hb, ea, eb, ka, kb, fa, fb, eq, kq, fq, q1, q4, he, hm]) <;> exact rfl
  apply T_skip
  apply K_seq
  apply T_seq
  apply T_wL F [0, 1, 2, 3, 4, 5, 6, 7, 8] rfl
  apply W_pre [0] [1, 2, 3, 4, 5, 6, 7, 8]
  · (simp only [go_sem, Try.ntmps8, hs, ok, hq, bne_self_eq_false, ha, hb, ea, eb, ka, kb, fa, fb, eq, kq, fq, q1, q4, he, hm]) <;> exact rfl
  apply W_call -- call 3 of function 26
  · (simp only [go_sem, Try.ntmps8, hs, ok, hq, bne_self_eq_false, ha, hb, ea, eb, ka, kb, fa, fb, eq, kq, fq, q1, q4, he, hm]) <;> exact rfl
  · (simp only [go_sem, Try.ntmps8, hs, ok, hq, bne_self_eq_false, ha, hb, ea, eb, ka, kb, fa, fb, eq, kq, fq, q1, q4, he, hm]) <;> exact rfl
  · exact rfl
  · (simp only [go_sem, Try.ntmps8, hs, ok, hq, bne_self_eq_false, ha, hb, ea, eb, ka, kb, fa, fb, eq, kq, fq, q1, q4, he, hm]) <;> exact rfl
  · (simp only [go_sem, Try.ntmps8, hs, ok, hq, bne_self_eq_false, ha, hb, ea, eb, ka, kb, fa, fb, eq, kq, fq, q1, q4, he, hm]) <;> exact rfl
  · exact ⟨_, Try.func26, rfl, rfl⟩
  · (simp only [go_sem, Try.ntmps8, hs, ok, hq, bne_self_eq_false, ha, hb, ea, eb, ka, kb, fa, fb, eq, kq, fq, q1, q4, he, hm]) <;> exact rfl
  · (simp only [go_sem, Try.ntmps8, hs, ok, hq, bne_self_eq_false, ha, hb, ea, eb, ka, kb, fa, fb, eq, kq, fq, q1, q4, he, hm]) <;> exact rfl
  · exact mv_BestC t hh ok a _ hBest
  apply W_pre [2, 3, 4, 5] [6, 7, 8]
  · (simp only [go_sem, Try.ntmps8, hs, ok, hq, bne_self_eq_false, ha, hb, ea, eb, ka, kb, fa, fb, eq, kq, fq, q1, q4, he, hm]) <;> exact rfl
  apply W_run
  · (simp only [go_sem, Try.ntmps8, hs, ok, hq, bne_self_eq_false, ha, hb, ea, eb, ka, kb, fa, fb, eq, kq, fq, q1, q4, he, hm]) <;> exact rfl
  apply W_nil
  apply K_seq
  apply T_seq
  apply T_wL F [0, 1, 2, 3, 4, 5, 6, 7, 8] rfl
  apply W_pre [0] [1, 2, 3, 4, 5, 6, 7, 8]
  · (simp only [go_sem, Try.ntmps8, hs, ok, hq, bne_self_eq_false, ha, hb, ea, eb, ka, kb, fa, fb, eq, kq, fq, q1, q4, he, hm]) <;> exact rfl
  apply W_call -- call 4 of function 27
  · (simp only [go_sem, Try.ntmps8, hs, ok, hq, bne_self_eq_false, ha, hb, ea, eb, ka, kb, fa, fb, eq, kq, fq, q1, q4, he, hm]) <;> exact rfl
  · (simp only [go_sem, Try.ntmps8, hs, ok, hq, bne_self_eq_false, ha, hb, ea, eb, ka, kb, fa, fb, eq, kq, fq, q1, q4, he, hm]) <;> exact rfl
  · exact rfl
  · (simp only [go_sem, Try.ntmps8, hs, ok, hq, bne_self_eq_false, ha, hb, ea, eb, ka, kb, fa, fb, eq, kq, fq, q1, q4, he, hm]) <;> exact rfl
  · (simp only [go_sem, Try.ntmps8, hs, ok, hq, bne_self_eq_false, ha, hb, ea, eb, ka, kb, fa, fb, eq, kq, fq, q1, q4, he, hm]) <;> exact rfl
  · exact ⟨_, Try.func27, rfl, rfl⟩
  · (simp only [go_sem, Try.ntmps8, hs, ok, hq, bne_self_eq_false, ha, hb, ea, eb, ka, kb, fa, fb, eq, kq, fq, q1, q4, he, hm]) <;> exact rfl
  · (simp only [go_sem, Try.ntmps8, hs, ok, hq, bne_self_eq_false, ha, hb, ea, eb, ka, kb, fa, fb, eq, kq, fq, q1, q4, he, hm]) <;> exact rfl
  · exact mv_FairestC t hh ok b _ hFair
  apply W_pre [2, 3, 4, 5] [6, 7, 8]
  · (simp only [go_sem, Try.ntmps8, hs, ok, hq, bne_self_eq_false, ha, hb, ea, eb, ka, kb, fa, fb, eq, kq, fq, q1, q4, he, hm]) <;> exact rfl
  apply W_run
  · (simp only [go_sem, Try.ntmps8, hs, ok, hq, bne_self_eq_false, ha, hb, ea, eb, ka, kb, fa, fb, eq, kq, fq, q1, q4, he, hm]) <;> exact rfl
  apply W_nil
  apply K_seq
  apply T_seq
  apply T_wL F [0, 1, 2, 3, 4, 5, 6, 7] rfl
  apply W_pre [0, 1] [2, 3, 4, 5, 6, 7]
  · (simp only [go_sem, Try.ntmps8, hs, ok, hq, bne_self_eq_false, ha, hb, ea, eb, ka, kb, fa, fb, eq, kq, fq, q1, q4, he, hm]) <;> exact rfl
  apply W_call -- call 5 of function 34
  · (simp only [go_sem, Try.ntmps8, hs, ok, hq, bne_self_eq_false, ha, hb, ea, eb, ka, kb, fa, fb, eq, kq, fq, q1, q4, he, hm]) <;> exact rfl
  · (simp only [go_sem, Try.ntmps8, hs, ok, hq, bne_self_eq_false, ha, hb, ea, eb, ka, kb, fa, fb, eq, kq, fq, q1, q4, he, hm]) <;> exact rfl
  · exact rfl
  · (simp only [go_sem, Try.ntmps8, hs, ok, hq, bne_self_eq_false, ha, hb, ea, eb, ka, kb, fa, fb, eq, kq, fq, q1, q4, he, hm]) <;> exact rfl
  · (simp only [go_sem, Try.ntmps8, hs, ok, hq, bne_self_eq_false, ha, hb, ea, eb, ka, kb, fa, fb, eq, kq, fq, q1, q4, he, hm]) <;> exact rfl
  · exact ⟨_, Try.func34, rfl, rfl⟩
  · (simp only [go_sem, Try.ntmps8, hs, ok, hq, bne_self_eq_false, ha, hb, ea, eb, ka, kb, fa, fb, eq, kq, fq, q1, q4, he, hm]) <;> exact rfl
  · (simp only [go_sem, Try.ntmps8, hs, ok, hq, bne_self_eq_false, ha, hb, ea, eb, ka, kb, fa, fb, eq, kq, fq, q1, q4, he, hm]) <;> exact rfl
  · exact mv_RanksAll (by omega)
  apply W_run
  · (simp only [go_sem, Try.ntmps8, hs, ok, hq, bne_self_eq_false, ha, hb, ea, eb, ka, kb, fa, fb, eq, kq, fq, q1, q4, he, hm]) <;> exact rfl
  apply W_nil
  apply K_seq
  apply T_seq
  apply T_seq
  apply T_r F
  · (simp only [go_sem, Try.ntmps8, hs, ok, hq, bne_self_eq_false, ha, hb, ea, eb, ka, kb, fa, fb, eq, kq, fq, q1, q4, he, hm]) <;> exact rfl
  apply K_seq
  apply T_ifF -- h1
  · (simp only [go_sem, Try.ntmps8, hs, ok, hq, bne_self_eq_false, ha, hb, ea, eb, ka, kb, fa, fb, eq, kq, fq, q1, q4, he, hm]) <;> exact rfl
  apply T_skip
  apply K_seq
  apply T_seq
  apply T_seq
  apply T_wL F [0, 1, 2, 3, 4, 5, 6, 7, 8, 9, 10, 11, 12, 13] rfl
  apply W_pre [0, 1, 2, 3, 4] [5, 6, 7, 8, 9, 10, 11, 12, 13]
  · (simp only [go_sem, Try.ntmps8, hs, ok, hq, bne_self_eq_false, ha, hb, ea, eb, ka, kb, fa, fb, eq, kq, fq, q1, q4, he, hm]) <;> exact rfl
  apply W_call -- call 6 of function 14
  · (simp only [go_sem, Try.ntmps8, hs, ok, hq, bne_self_eq_false, ha, hb, ea, eb, ka, kb, fa, fb, eq, kq, fq, q1, q4, he, hm]) <;> exact rfl
  · (simp only [go_sem, Try.ntmps8, hs, ok, hq, bne_self_eq_false, ha, hb, ea, eb, ka, kb, fa, fb, eq, kq, fq, q1, q4, he, hm]) <;> exact rfl
  · exact rfl
  · (simp only [go_sem, Try.ntmps8, hs, ok, hq, bne_self_eq_false, ha, hb, ea, eb, ka, kb, fa, fb, eq, kq, fq, q1, q4, he, hm]) <;> exact rfl
  · (simp only [go_sem, Try.ntmps8, hs, ok, hq, bne_self_eq_false, ha, hb, ea, eb, ka, kb, fa, fb, eq, kq, fq, q1, q4, he, hm]) <;> exact rfl
  · exact ⟨_, Try.func14, rfl, rfl⟩
  · (simp only [go_sem, Try.ntmps8, hs, ok, hq, bne_self_eq_false, ha, hb, ea, eb, ka, kb, fa, fb, eq, kq, fq, q1, q4, he, hm]) <;> exact rfl
  · (simp only [go_sem, Try.ntmps8, hs, ok, hq, bne_self_eq_false, ha, hb, ea, eb, ka, kb, fa, fb, eq, kq, fq, q1, q4, he, hm]) <;> exact rfl
  · exact ref_plan _ _
  apply W_pre [6, 7, 8, 9, 10] [11, 12, 13]
  · (simp only [go_sem, Try.ntmps8, hs, ok, hq, bne_self_eq_false, ha, hb, ea, eb, ka, kb, fa, fb, eq, kq, fq, q1, q4, he, hm]) <;> exact rfl
  apply W_call -- call 7 of function 14
  · (simp only [go_sem, Try.ntmps8, hs, ok, hq, bne_self_eq_false, ha, hb, ea, eb, ka, kb, fa, fb, eq, kq, fq, q1, q4, he, hm]) <;> exact rfl
  · (simp only [go_sem, Try.ntmps8, hs, ok, hq, bne_self_eq_false, ha, hb, ea, eb, ka, kb, fa, fb, eq, kq, fq, q1, q4, he, hm]) <;> exact rfl
  · exact rfl
  · (simp only [go_sem, Try.ntmps8, hs, ok, hq, bne_self_eq_false, ha, hb, ea, eb, ka, kb, fa, fb, eq, kq, fq, q1, q4, he, hm]) <;> exact rfl
  · (simp only [go_sem, Try.ntmps8, hs, ok, hq, bne_self_eq_false, ha, hb, ea, eb, ka, kb, fa, fb, eq, kq, fq, q1, q4, he, hm]) <;> exact rfl
  · exact ⟨_, Try.func14, rfl, rfl⟩
  · (simp only [go_sem, Try.ntmps8, hs, ok, hq, bne_self_eq_false, ha, hb, ea, eb, ka, kb, fa, fb, eq, kq, fq, q1, q4, he, hm]) <;> exact rfl
  · (simp only [go_sem, Try.ntmps8, hs, ok, hq, bne_self_eq_false, ha, hb, ea, eb, ka, kb, fa, fb, eq, kq, fq, q1, q4, he, hm]) <;> exact rfl
  · exact ref_plan _ _
  apply W_run
  · (simp only [go_sem, Try.ntmps8, hs, ok, hq, bne_self_eq_false, ha, hb, ea, eb, ka, kb, fa, fb, eq, kq, fq, q1, q4, he, hm]) <;> exact rfl
  apply W_nil
  apply K_seq
  apply T_ifF -- h2
  · (simp only [go_sem, Try.ntmps8, hs, ok, hq, bne_self_eq_false, ha, hb, ea, eb, ka, kb, fa, fb, eq, kq, fq, q1, q4, he, hm]) <;> exact rfl
  apply T_skip
  apply K_seq
  apply T_seq
  apply T_wL F [0, 1, 2, 3, 4, 5, 6, 7] rfl
  apply W_pre [0, 1] [2, 3, 4, 5, 6, 7]
  · (simp only [go_sem, Try.ntmps8, hs, ok, hq, bne_self_eq_false, ha, hb, ea, eb, ka, kb, fa, fb, eq, kq, fq, q1, q4, he, hm]) <;> exact rfl
  apply W_call -- call 8 of function 34
  · (simp only [go_sem, Try.ntmps8, hs, ok, hq, bne_self_eq_false, ha, hb, ea, eb, ka, kb, fa, fb, eq, kq, fq, q1, q4, he, hm]) <;> exact rfl
  · (simp only [go_sem, Try.ntmps8, hs, ok, hq, bne_self_eq_false, ha, hb, ea, eb, ka, kb, fa, fb, eq, kq, fq, q1, q4, he, hm]) <;> exact rfl
  · exact rfl
  · (simp only [go_sem, Try.ntmps8, hs, ok, hq, bne_self_eq_false, ha, hb, ea, eb, ka, kb, fa, fb, eq, kq, fq, q1, q4, he, hm]) <;> exact rfl
  · (simp only [go_sem, Try.ntmps8, hs, ok, hq, bne_self_eq_false, ha, hb, ea, eb, ka, kb, fa, fb, eq, kq, fq, q1, q4, he, hm]) <;> exact rfl
  · exact ⟨_, Try.func34, rfl, rfl⟩
  · (simp only [go_sem, Try.ntmps8, hs, ok, hq, bne_self_eq_false, ha, hb, ea, eb, ka, kb, fa, fb, eq, kq, fq, q1, q4, he, hm]) <;> exact rfl
  · (simp only [go_sem, Try.ntmps8, hs, ok, hq, bne_self_eq_false, ha, hb, ea, eb, ka, kb, fa, fb, eq, kq, fq, q1, q4, he, hm]) <;> exact rfl
  · exact mv_RanksAll (by omega)
  apply W_run
  · (simp only [go_sem, Try.ntmps8, hs, ok, hq, bne_self_eq_false, ha, hb, ea, eb, ka, kb, fa, fb, eq, kq, fq, q1, q4, he, hm]) <;> exact rfl
  apply W_nil
  apply K_seq
  apply T_seq
  apply T_wL F [0, 1, 2, 3, 4, 5, 6, 7] rfl
  apply W_pre [0, 1] [2, 3, 4, 5, 6, 7]
  · (simp only [go_sem, Try.ntmps8, hs, ok, hq, bne_self_eq_false, ha, hb, ea, eb, ka, kb, fa, fb, eq, kq, fq, q1, q4, he, hm]) <;> exact rfl
  apply W_call -- call 9 of function 34
  · (simp only [go_sem, Try.ntmps8, hs, ok, hq, bne_self_eq_false, ha, hb, ea, eb, ka, kb, fa, fb, eq, kq, fq, q1, q4, he, hm]) <;> exact rfl
  · (simp only [go_sem, Try.ntmps8, hs, ok, hq, bne_self_eq_false, ha, hb, ea, eb, ka, kb, fa, fb, eq, kq, fq, q1, q4, he, hm]) <;> exact rfl
  · exact rfl
  · (simp only [go_sem, Try.ntmps8, hs, ok, hq, bne_self_eq_false, ha, hb, ea, eb, ka, kb, fa, fb, eq, kq, fq, q1, q4, he, hm]) <;> exact rfl
  · (simp only [go_sem, Try.ntmps8, hs, ok, hq, bne_self_eq_false, ha, hb, ea, eb, ka, kb, fa, fb, eq, kq, fq, q1, q4, he, hm]) <;> exact rfl
  · exact ⟨_, Try.func34, rfl, rfl⟩
  · (simp only [go_sem, Try.ntmps8, hs, ok, hq, bne_self_eq_false, ha, hb, ea, eb, ka, kb, fa, fb, eq, kq, fq, q1, q4, he, hm]) <;> exact rfl
  · (simp only [go_sem, Try.ntmps8, hs, ok, hq, bne_self_eq_false, ha, hb, ea, eb, ka, kb, fa, fb, eq, kq, fq, q1, q4, he, hm]) <;> exact rfl
  · exact mv_RanksAll (by omega)
  apply W_run
  · (simp only [go_sem, Try.ntmps8, hs, ok, hq, bne_self_eq_false, ha, hb, ea, eb, ka, kb, fa, fb, eq, kq, fq, q1, q4, he, hm]) <;> exact rfl
  apply W_nil
  apply K_seq
  apply T_seq
  apply T_seq
  apply T_wL F [0, 1, 2, 3, 4, 5, 6, 7, 8, 9, 10, 11, 12, 13, 14, 15, 16, 17, 18, 19, 20, 21, 22, 23, 24, 25, 26, 27, 28, 29] rfl
  apply W_pre [0, 1, 2, 3] [4, 5, 6, 7, 8, 9, 10, 11, 12, 13, 14, 15, 16, 17, 18, 19, 20, 21, 22, 23, 24, 25, 26, 27, 28, 29]
  · (simp only [go_sem, Try.ntmps8, hs, ok, hq, bne_self_eq_false, ha, hb, ea, eb, ka, kb, fa, fb, eq, kq, fq, q1, q4, he, hm]) <;> exact rfl
  apply W_pre [4, 5, 6, 7, 8] [9, 10, 11, 12, 13, 14, 15, 16, 17, 18, 19, 20, 21, 22, 23, 24, 25, 26, 27, 28, 29]
  · (simp only [go_sem, Try.ntmps8, hs, ok, hq, bne_self_eq_false, ha, hb, ea, eb, ka, kb, fa, fb, eq, kq, fq, q1, q4, he, hm]) <;> exact rfl
  apply W_call -- call 10 of function 35
  · (simp only [go_sem, Try.ntmps8, hs, ok, hq, bne_self_eq_false, ha, hb, ea, eb, ka, kb, fa, fb, eq, kq, fq, q1, q4, he, hm]) <;> exact rfl
  · (simp only [go_sem, Try.ntmps8, hs, ok, hq, bne_self_eq_false, ha, hb, ea, eb, ka, kb, fa, fb, eq, kq, fq, q1, q4, he, hm]) <;> exact rfl
  · exact rfl
  · (simp only [go_sem, Try.ntmps8, hs, ok, hq, bne_self_eq_false, ha, hb, ea, eb, ka, kb, fa, fb, eq, kq, fq, q1, q4, he, hm]) <;> exact rfl
  · (simp only [go_sem, Try.ntmps8, hs, ok, hq, bne_self_eq_false, ha, hb, ea, eb, ka, kb, fa, fb, eq, kq, fq, q1, q4, he, hm]) <;> exact rfl
  · exact ⟨_, Try.func35, rfl, rfl⟩
  · (simp only [go_sem, Try.ntmps8, hs, ok, hq, bne_self_eq_false, ha, hb, ea, eb, ka, kb, fa, fb, eq, kq, fq, q1, q4, he, hm]) <;> exact rfl
  · (simp only [go_sem, Try.ntmps8, hs, ok, hq, bne_self_eq_false, ha, hb, ea, eb, ka, kb, fa, fb, eq, kq, fq, q1, q4, he, hm]) <;> exact rfl
  · exact law_fine _ _
  apply W_pre [10, 11, 12, 13, 14] [15, 16, 17, 18, 19, 20, 21, 22, 23, 24, 25, 26, 27, 28, 29]
  · (simp only [go_sem, Try.ntmps8, hs, ok, hq, bne_self_eq_false, ha, hb, ea, eb, ka, kb, fa, fb, eq, kq, fq, q1, q4, he, hm]) <;> exact rfl
  apply W_call -- call 11 of function 35
  · (simp only [go_sem, Try.ntmps8, hs, ok, hq, bne_self_eq_false, ha, hb, ea, eb, ka, kb, fa, fb, eq, kq, fq, q1, q4, he, hm]) <;> exact rfl
  · (simp only [go_sem, Try.ntmps8, hs, ok, hq, bne_self_eq_false, ha, hb, ea, eb, ka, kb, fa, fb, eq, kq, fq, q1, q4, he, hm]) <;> exact rfl
  · exact rfl
  · (simp only [go_sem, Try.ntmps8, hs, ok, hq, bne_self_eq_false, ha, hb, ea, eb, ka, kb, fa, fb, eq, kq, fq, q1, q4, he, hm]) <;> exact rfl
  · (simp only [go_sem, Try.ntmps8, hs, ok, hq, bne_self_eq_false, ha, hb, ea, eb, ka, kb, fa, fb, eq, kq, fq, q1, q4, he, hm]) <;> exact rfl
  · exact ⟨_, Try.func35, rfl, rfl⟩
  · (simp only [go_sem, Try.ntmps8, hs, ok, hq, bne_self_eq_false, ha, hb, ea, eb, ka, kb, fa, fb, eq, kq, fq, q1, q4, he, hm]) <;> exact rfl
  · (simp only [go_sem, Try.ntmps8, hs, ok, hq, bne_self_eq_false, ha, hb, ea, eb, ka, kb, fa, fb, eq, kq, fq, q1, q4, he, hm]) <;> exact rfl
  · exact law_fine _ _
  apply W_pre [16, 17, 18, 19] [20, 21, 22, 23, 24, 25, 26, 27, 28, 29]
  · (simp only [go_sem, Try.ntmps8, hs, ok, hq, bne_self_eq_false, ha, hb, ea, eb, ka, kb, fa, fb, eq, kq, fq, q1, q4, he, hm]) <;> exact rfl
  apply W_call -- call 12 of function 30
  · (simp only [go_sem, Try.ntmps8, hs, ok, hq, bne_self_eq_false, ha, hb, ea, eb, ka, kb, fa, fb, eq, kq, fq, q1, q4, he, hm]) <;> exact rfl
  · (simp only [go_sem, Try.ntmps8, hs, ok, hq, bne_self_eq_false, ha, hb, ea, eb, ka, kb, fa, fb, eq, kq, fq, q1, q4, he, hm]) <;> exact rfl
  · exact rfl
  · (simp only [go_sem, Try.ntmps8, hs, ok, hq, bne_self_eq_false, ha, hb, ea, eb, ka, kb, fa, fb, eq, kq, fq, q1, q4, he, hm]) <;> exact rfl
  · (simp only [go_sem, Try.ntmps8, hs, ok, hq, bne_self_eq_false, ha, hb, ea, eb, ka, kb, fa, fb, eq, kq, fq, q1, q4, he, hm]) <;> exact rfl
  · exact ⟨_, Try.func30, rfl, rfl⟩
  · (simp only [go_sem, Try.ntmps8, hs, ok, hq, bne_self_eq_false, ha, hb, ea, eb, ka, kb, fa, fb, eq, kq, fq, q1, q4, he, hm]) <;> exact rfl
  · (simp only [go_sem, Try.ntmps8, hs, ok, hq, bne_self_eq_false, ha, hb, ea, eb, ka, kb, fa, fb, eq, kq, fq, q1, q4, he, hm]) <;> exact rfl
  · exact ref_sum _ (M.ranks_wide ok) (by omega)
  apply W_pre [21, 22, 23, 24, 25] [26, 27, 28, 29]
  · (simp only [go_sem, Try.ntmps8, hs, ok, hq, bne_self_eq_false, ha, hb, ea, eb, ka, kb, fa, fb, eq, kq, fq, q1, q4, he, hm]) <;> exact rfl
  apply W_call -- call 13 of function 32
  · (simp only [go_sem, Try.ntmps8, hs, ok, hq, bne_self_eq_false, ha, hb, ea, eb, ka, kb, fa, fb, eq, kq, fq, q1, q4, he, hm]) <;> exact rfl
  · (simp only [go_sem, Try.ntmps8, hs, ok, hq, bne_self_eq_false, ha, hb, ea, eb, ka, kb, fa, fb, eq, kq, fq, q1, q4, he, hm]) <;> exact rfl
  · exact rfl
  · (simp only [go_sem, Try.ntmps8, hs, ok, hq, bne_self_eq_false, ha, hb, ea, eb, ka, kb, fa, fb, eq, kq, fq, q1, q4, he, hm]) <;> exact rfl
  · (simp only [go_sem, Try.ntmps8, hs, ok, hq, bne_self_eq_false, ha, hb, ea, eb, ka, kb, fa, fb, eq, kq, fq, q1, q4, he, hm]) <;> exact rfl
  · exact ⟨_, Try.func32, rfl, rfl⟩
  · (simp only [go_sem, Try.ntmps8, hs, ok, hq, bne_self_eq_false, ha, hb, ea, eb, ka, kb, fa, fb, eq, kq, fq, q1, q4, he, hm]) <;> exact rfl
  · (simp only [go_sem, Try.ntmps8, hs, ok, hq, bne_self_eq_false, ha, hb, ea, eb, ka, kb, fa, fb, eq, kq, fq, q1, q4, he, hm]) <;> exact rfl
  · exact ref_most _
  apply W_run
  · (simp only [go_sem, Try.ntmps8, hs, ok, hq, bne_self_eq_false, ha, hb, ea, eb, ka, kb, fa, fb, eq, kq, fq, q1, q4, he, hm]) <;> exact rfl
  apply W_nil
  apply K_seq
  apply T_ifF -- h3
  · (simp only [go_sem, Try.ntmps8, hs, ok, hq, bne_self_eq_false, ha, hb, ea, eb, ka, kb, fa, fb, eq, kq, fq, q1, q4, he, hm]) <;> exact rfl
  apply T_skip
  apply K_seq
  apply T_seq
  apply T_seq
  apply T_r F
  · (simp only [go_sem, Try.ntmps8, hs, ok, hq, bne_self_eq_false, ha, hb, ea, eb, ka, kb, fa, fb, eq, kq, fq, q1, q4, he, hm]) <;> exact rfl
  apply K_seq
  apply T_ifF -- h4
  · (simp only [go_sem, Try.ntmps8, hs, ok, hq, bne_self_eq_false, ha, hb, ea, eb, ka, kb, fa, fb, eq, kq, fq, q1, q4, he, hm]) <;> exact rfl
  apply T_skip
  apply K_seq
  apply T_seq
  apply T_seq
  apply T_wL F [0, 1, 2, 3] rfl
  apply W_pre [0, 1] [2, 3]
  · (simp only [go_sem, Try.ntmps8, hs, ok, hq, bne_self_eq_false, ha, hb, ea, eb, ka, kb, fa, fb, eq, kq, fq, q1, q4, he, hm]) <;> exact rfl
  apply W_call -- call 14 of function 35
  · (simp only [go_sem, Try.ntmps8, hs, ok, hq, bne_self_eq_false, ha, hb, ea, eb, ka, kb, fa, fb, eq, kq, fq, q1, q4, he, hm]) <;> exact rfl
  · (simp only [go_sem, Try.ntmps8, hs, ok, hq, bne_self_eq_false, ha, hb, ea, eb, ka, kb, fa, fb, eq, kq, fq, q1, q4, he, hm]) <;> exact rfl
  · exact rfl
  · (simp only [go_sem, Try.ntmps8, hs, ok, hq, bne_self_eq_false, ha, hb, ea, eb, ka, kb, fa, fb, eq, kq, fq, q1, q4, he, hm]) <;> exact rfl
  · (simp only [go_sem, Try.ntmps8, hs, ok, hq, bne_self_eq_false, ha, hb, ea, eb, ka, kb, fa, fb, eq, kq, fq, q1, q4, he, hm]) <;> exact rfl
  · exact ⟨_, Try.func35, rfl, rfl⟩
  · (simp only [go_sem, Try.ntmps8, hs, ok, hq, bne_self_eq_false, ha, hb, ea, eb, ka, kb, fa, fb, eq, kq, fq, q1, q4, he, hm]) <;> exact rfl
  · (simp only [go_sem, Try.ntmps8, hs, ok, hq, bne_self_eq_false, ha, hb, ea, eb, ka, kb, fa, fb, eq, kq, fq, q1, q4, he, hm]) <;> exact rfl
  · exact law_fine _ _
  apply W_run
  · (simp only [go_sem, Try.ntmps8, hs, ok, hq, bne_self_eq_false, ha, hb, ea, eb, ka, kb, fa, fb, eq, kq, fq, q1, q4, he, hm]) <;> exact rfl
  apply W_nil
  apply K_seq
  apply T_ifF -- h5
  · (simp only [go_sem, Try.ntmps8, hs, ok, hq, bne_self_eq_false, ha, hb, ea, eb, ka, kb, fa, fb, eq, kq, fq, q1, q4, he, hm]) <;> exact rfl
  apply T_skip
  apply K_seq
  apply T_seq
  apply T_wL F [0, 1, 2, 3, 4, 5] rfl
  apply W_pre [0] [1, 2, 3, 4, 5]
  · (simp only [go_sem, Try.ntmps8, hs, ok, hq, bne_self_eq_false, ha, hb, ea, eb, ka, kb, fa, fb, eq, kq, fq, q1, q4, he, hm]) <;> exact rfl
  apply W_call -- call 15 of function 30
  · (simp only [go_sem, Try.ntmps8, hs, ok, hq, bne_self_eq_false, ha, hb, ea, eb, ka, kb, fa, fb, eq, kq, fq, q1, q4, he, hm]) <;> exact rfl
  · (simp only [go_sem, Try.ntmps8, hs, ok, hq, bne_self_eq_false, ha, hb, ea, eb, ka, kb, fa, fb, eq, kq, fq, q1, q4, he, hm]) <;> exact rfl
  · exact rfl
  · (simp only [go_sem, Try.ntmps8, hs, ok, hq, bne_self_eq_false, ha, hb, ea, eb, ka, kb, fa, fb, eq, kq, fq, q1, q4, he, hm]) <;> exact rfl
  · (simp only [go_sem, Try.ntmps8, hs, ok, hq, bne_self_eq_false, ha, hb, ea, eb, ka, kb, fa, fb, eq, kq, fq, q1, q4, he, hm]) <;> exact rfl
  · exact ⟨_, Try.func30, rfl, rfl⟩
  · (simp only [go_sem, Try.ntmps8, hs, ok, hq, bne_self_eq_false, ha, hb, ea, eb, ka, kb, fa, fb, eq, kq, fq, q1, q4, he, hm]) <;> exact rfl
  · (simp only [go_sem, Try.ntmps8, hs, ok, hq, bne_self_eq_false, ha, hb, ea, eb, ka, kb, fa, fb, eq, kq, fq, q1, q4, he, hm]) <;> exact rfl
  · exact ref_sum _ (M.ranks_wide ok) (by omega)
  apply W_pre [2] [3, 4, 5]
  · (simp only [go_sem, Try.ntmps8, hs, ok, hq, bne_self_eq_false, ha, hb, ea, eb, ka, kb, fa, fb, eq, kq, fq, q1, q4, he, hm]) <;> exact rfl
  apply W_call -- call 16 of function 32
  · (simp only [go_sem, Try.ntmps8, hs, ok, hq, bne_self_eq_false, ha, hb, ea, eb, ka, kb, fa, fb, eq, kq, fq, q1, q4, he, hm]) <;> exact rfl
  · (simp only [go_sem, Try.ntmps8, hs, ok, hq, bne_self_eq_false, ha, hb, ea, eb, ka, kb, fa, fb, eq, kq, fq, q1, q4, he, hm]) <;> exact rfl
  · exact rfl
  · (simp only [go_sem, Try.ntmps8, hs, ok, hq, bne_self_eq_false, ha, hb, ea, eb, ka, kb, fa, fb, eq, kq, fq, q1, q4, he, hm]) <;> exact rfl
  · (simp only [go_sem, Try.ntmps8, hs, ok, hq, bne_self_eq_false, ha, hb, ea, eb, ka, kb, fa, fb, eq, kq, fq, q1, q4, he, hm]) <;> exact rfl
  · exact ⟨_, Try.func32, rfl, rfl⟩
  · (simp only [go_sem, Try.ntmps8, hs, ok, hq, bne_self_eq_false, ha, hb, ea, eb, ka, kb, fa, fb, eq, kq, fq, q1, q4, he, hm]) <;> exact rfl
  · (simp only [go_sem, Try.ntmps8, hs, ok, hq, bne_self_eq_false, ha, hb, ea, eb, ka, kb, fa, fb, eq, kq, fq, q1, q4, he, hm]) <;> exact rfl
  · exact ref_most _
  apply W_run
  · (simp only [go_sem, Try.ntmps8, hs, ok, hq, bne_self_eq_false, ha, hb, ea, eb, ka, kb, fa, fb, eq, kq, fq, q1, q4, he, hm]) <;> exact rfl
  apply W_nil
  apply K_seq
  apply T_seq
  apply T_seq
  apply T_wL F [0, 1, 2, 3, 4, 5, 6, 7, 8, 9, 10, 11, 12] rfl
  apply W_pre [0, 1, 2, 3] [4, 5, 6, 7, 8, 9, 10, 11, 12]
  · (simp only [go_sem, Try.ntmps8, hs, ok, hq, bne_self_eq_false, ha, hb, ea, eb, ka, kb, fa, fb, eq, kq, fq, q1, q4, he, hm]) <;> exact rfl
  apply W_pre [4, 5, 6, 7] [8, 9, 10, 11, 12]
  · (simp only [go_sem, Try.ntmps8, hs, ok, hq, bne_self_eq_false, ha, hb, ea, eb, ka, kb, fa, fb, eq, kq, fq, q1, q4, he, hm]) <;> exact rfl
  apply W_run
  · (simp only [go_sem, Try.ntmps8, hs, ok, hq, bne_self_eq_false, ha, hb, ea, eb, ka, kb, fa, fb, eq, kq, fq, q1, q4, he, hm]) <;> exact rfl
  apply W_nil
  apply K_seq
  apply T_ifF -- h6
  · (simp only [go_sem, Try.ntmps8, hs, ok, hq, bne_self_eq_false, ha, hb, ea, eb, ka, kb, fa, fb, eq, kq, fq, q1, q4, he, hm]) <;> exact rfl
  apply T_skip
  apply K_seq
  apply T_seq
  apply T_wL F [0, 1, 2, 3, 4, 5, 6, 7, 8, 9, 10, 11, 12, 13, 14, 15, 16, 17, 18, 19, 20, 21, 22, 23, 24, 25, 26, 27, 28, 29, 30, 31, 32, 33, 34] rfl
  apply W_pre [0, 1, 2, 3] [4, 5, 6, 7, 8, 9, 10, 11, 12, 13, 14, 15, 16, 17, 18, 19, 20, 21, 22, 23, 24, 25, 26, 27, 28, 29, 30, 31, 32, 33, 34]
  · (simp only [go_sem, Try.ntmps8, hs, ok, hq, bne_self_eq_false, ha, hb, ea, eb, ka, kb, fa, fb, eq, kq, fq, q1, q4, he, hm]) <;> exact rfl
  apply W_pre [4, 5, 6, 7] [8, 9, 10, 11, 12, 13, 14, 15, 16, 17, 18, 19, 20, 21, 22, 23, 24, 25, 26, 27, 28, 29, 30, 31, 32, 33, 34]
  · (simp only [go_sem, Try.ntmps8, hs, ok, hq, bne_self_eq_false, ha, hb, ea, eb, ka, kb, fa, fb, eq, kq, fq, q1, q4, he, hm]) <;> exact rfl
  apply W_pre [8, 9, 10, 11] [12, 13, 14, 15, 16, 17, 18, 19, 20, 21, 22, 23, 24, 25, 26, 27, 28, 29, 30, 31, 32, 33, 34]
  · (simp only [go_sem, Try.ntmps8, hs, ok, hq, bne_self_eq_false, ha, hb, ea, eb, ka, kb, fa, fb, eq, kq, fq, q1, q4, he, hm]) <;> exact rfl
  apply W_pre [12, 13, 14, 15] [16, 17, 18, 19, 20, 21, 22, 23, 24, 25, 26, 27, 28, 29, 30, 31, 32, 33, 34]
  · (simp only [go_sem, Try.ntmps8, hs, ok, hq, bne_self_eq_false, ha, hb, ea, eb, ka, kb, fa, fb, eq, kq, fq, q1, q4, he, hm]) <;> exact rfl
  apply W_pre [16, 17, 18, 19] [20, 21, 22, 23, 24, 25, 26, 27, 28, 29, 30, 31, 32, 33, 34]
  · (simp only [go_sem, Try.ntmps8, hs, ok, hq, bne_self_eq_false, ha, hb, ea, eb, ka, kb, fa, fb, eq, kq, fq, q1, q4, he, hm]) <;> exact rfl
  apply W_pre [20, 21, 22, 23] [24, 25, 26, 27, 28, 29, 30, 31, 32, 33, 34]
  · (simp only [go_sem, Try.ntmps8, hs, ok, hq, bne_self_eq_false, ha, hb, ea, eb, ka, kb, fa, fb, eq, kq, fq, q1, q4, he, hm]) <;> exact rfl
  apply W_pre [24, 25, 26, 27] [28, 29, 30, 31, 32, 33, 34]
  · (simp only [go_sem, Try.ntmps8, hs, ok, hq, bne_self_eq_false, ha, hb, ea, eb, ka, kb, fa, fb, eq, kq, fq, q1, q4, he, hm]) <;> exact rfl
  apply W_pre [28, 29, 30, 31] [32, 33, 34]
  · (simp only [go_sem, Try.ntmps8, hs, ok, hq, bne_self_eq_false, ha, hb, ea, eb, ka, kb, fa, fb, eq, kq, fq, q1, q4, he, hm]) <;> exact rfl
  apply W_call -- call 17 of function 16
  · (simp only [go_sem, Try.ntmps8, hs, ok, hq, bne_self_eq_false, ha, hb, ea, eb, ka, kb, fa, fb, eq, kq, fq, q1, q4, he, hm]) <;> exact rfl
  · (simp only [go_sem, Try.ntmps8, hs, ok, hq, bne_self_eq_false, ha, hb, ea, eb, ka, kb, fa, fb, eq, kq, fq, q1, q4, he, hm]) <;> exact rfl
  · exact rfl
  · (simp only [go_sem, Try.ntmps8, hs, ok, hq, bne_self_eq_false, ha, hb, ea, eb, ka, kb, fa, fb, eq, kq, fq, q1, q4, he, hm]) <;> exact rfl
  · (simp only [go_sem, Try.ntmps8, hs, ok, hq, bne_self_eq_false, ha, hb, ea, eb, ka, kb, fa, fb, eq, kq, fq, q1, q4, he, hm]) <;> exact rfl
  · exact ⟨_, Try.func16, rfl, rfl⟩
  · (simp only [go_sem, Try.ntmps8, hs, ok, hq, bne_self_eq_false, ha, hb, ea, eb, ka, kb, fa, fb, eq, kq, fq, q1, q4, he, hm]) <;> exact rfl
  · (simp only [go_sem, Try.ntmps8, hs, ok, hq, bne_self_eq_false, ha, hb, ea, eb, ka, kb, fa, fb, eq, kq, fq, q1, q4, he, hm]) <;> exact rfl
  · exact known_ok
  apply W_run
  · (simp only [go_sem, Try.ntmps8, hs, ok, hq, bne_self_eq_false, ha, hb, ea, eb, ka, kb, fa, fb, eq, kq, fq, q1, q4, he, hm]) <;> exact rfl
  apply W_nil
  apply K_seq
  apply T_ret
  apply fin_ret
  · (simp only [go_sem, Try.ntmps8, hs, ok, hq, bne_self_eq_false, ha, hb, ea, eb, ka, kb, fa, fb, eq, kq, fq, q1, q4, he, hm, Try.f8]) <;> exact rfl
  -- leaf 0 (ret)
  
  all_goals rfl

theorem law_rivalsJ (t : Town) (q a b : List Int) (hs : M.Short t) (ok : M.Ok t) (hq : M.plan t q = true) (hBest : M.least (fun p => (M.sum (M.ranks t p), 0)) (M.plans t) = some (a, (M.sum (M.ranks t a), 0))) (ha : M.plan t a = true) (aa : M.allowed t a = true) (bB : ∀ q, M.plan t q = true → M.allowed t q = true → ¬ M.sum (M.ranks t q) < M.sum (M.ranks t a) ∧ (M.sum (M.ranks t q) = M.sum (M.ranks t a) → M.before q a = false)) (hFair : M.least (fun p => (M.most (M.ranks t p), M.sum (M.ranks t p))) (M.plans t) = some (b, (M.most (M.ranks t b), M.sum (M.ranks t b)))) (hb : M.plan t b = true) (ab : M.allowed t b = true) (bF : ∀ q, M.plan t q = true → M.allowed t q = true → M.most (M.ranks t b) ≤ M.most (M.ranks t q) ∧ (M.most (M.ranks t q) = M.most (M.ranks t b) → M.sum (M.ranks t b) ≤ M.sum (M.ranks t q) ∧ (M.sum (M.ranks t q) = M.sum (M.ranks t b) → M.before q b = false))) (aq : M.allowed t q = true) (he : (M.sum (M.ranks t q) == M.sum (M.ranks t a)) = false) (hm : M.most (M.ranks t q) = M.most (M.ranks t b)) (hz : M.sum (M.ranks t b) < M.sum (M.ranks t q))  : Ret Try.prog 8 [.agg (cT t), .sl 1 (rI q)] (.bool true) := by
  have hh : t.houses.length ≤ 1000 := by have := hs.2.2.2.2.2.1; omega
  have ea : M.err t a = 0 := by simp [M.err, ok, ha, aa]
  have ka : M.rk t a = M.ranks t a := by simp [M.rk, ea]
  have fa := M.fine_ranks ok ha aa
  have la : (M.ranks t a).length = t.houses.length := by rw [M.ranks_length]; exact (M.plan_iff.1 ha).1
  have eb : M.err t b = 0 := by simp [M.err, ok, hb, ab]
  have kb : M.rk t b = M.ranks t b := by simp [M.rk, eb]
  have fb := M.fine_ranks ok hb ab
  have lb : (M.ranks t b).length = t.houses.length := by rw [M.ranks_length]; exact (M.plan_iff.1 hb).1
  have eq : M.err t q = 0 := by simp [M.err, ok, hq, aq]
  have kq : M.rk t q = M.ranks t q := by simp [M.rk, eq]
  have fq := M.fine_ranks ok hq aq
  have lq : (M.ranks t q).length = t.houses.length := by rw [M.ranks_length]; exact (M.plan_iff.1 hq).1
  obtain ⟨q1, q2⟩ := bB q hq aq
  obtain ⟨q4, q5⟩ := bF q hq aq
  obtain ⟨q7, q8⟩ := q5 hm
  have hm1 : ¬ M.most (M.ranks t b) < M.most (M.ranks t q) := by omega
  apply Ret_fin (fn := Try.f8) Try.func8 rfl
  apply T_seq
  apply T_r F
  · (simp only [go_sem, Try.ntmps8, hs, ok, hq, bne_self_eq_false, ha, hb, ea, eb, ka, kb, fa, fb, eq, kq, fq, q1, q4, he, hm1, q7, hz]) <;> exact rfl
  apply K_seq
  apply T_seq
  apply T_seq
  apply T_wL F [0, 1, 2, 3, 4, 5, 6, 7, 8, 9, 10, 11, 12, 13] rfl
  apply W_pre [0] [1, 2, 3, 4, 5, 6, 7, 8, 9, 10, 11, 12, 13]
  · (simp only [go_sem, Try.ntmps8, hs, ok, hq, bne_self_eq_false, ha, hb, ea, eb, ka, kb, fa, fb, eq, kq, fq, q1, q4, he, hm1, q7, hz]) <;> exact rfl
  apply W_call -- call 0 of function 12
  · (simp only [go_sem, Try.ntmps8, hs, ok, hq, bne_self_eq_false, ha, hb, ea, eb, ka, kb, fa, fb, eq, kq, fq, q1, q4, he, hm1, q7, hz]) <;> exact rfl
  · (simp only [go_sem, Try.ntmps8, hs, ok, hq, bne_self_eq_false, ha, hb, ea, eb, ka, kb, fa, fb, eq, kq, fq, q1, q4, he, hm1, q7, hz]) <;> exact rfl
  · exact rfl
  · (simp only [go_sem, Try.ntmps8, hs, ok, hq, bne_self_eq_false, ha, hb, ea, eb, ka, kb, fa, fb, eq, kq, fq, q1, q4, he, hm1, q7, hz]) <;> exact rfl
  · (simp only [go_sem, Try.ntmps8, hs, ok, hq, bne_self_eq_false, ha, hb, ea, eb, ka, kb, fa, fb, eq, kq, fq, q1, q4, he, hm1, q7, hz]) <;> exact rfl
  · exact ⟨_, Try.func12, rfl, rfl⟩
  · (simp only [go_sem, Try.ntmps8, hs, ok, hq, bne_self_eq_false, ha, hb, ea, eb, ka, kb, fa, fb, eq, kq, fq, q1, q4, he, hm1, q7, hz]) <;> exact rfl
  · (simp only [go_sem, Try.ntmps8, hs, ok, hq, bne_self_eq_false, ha, hb, ea, eb, ka, kb, fa, fb, eq, kq, fq, q1, q4, he, hm1, q7, hz]) <;> exact rfl
  · exact law_short _
  apply W_pre [2, 3, 4] [5, 6, 7, 8, 9, 10, 11, 12, 13]
  · (simp only [go_sem, Try.ntmps8, hs, ok, hq, bne_self_eq_false, ha, hb, ea, eb, ka, kb, fa, fb, eq, kq, fq, q1, q4, he, hm1, q7, hz]) <;> exact rfl
  apply W_call -- call 1 of function 13
  · (simp only [go_sem, Try.ntmps8, hs, ok, hq, bne_self_eq_false, ha, hb, ea, eb, ka, kb, fa, fb, eq, kq, fq, q1, q4, he, hm1, q7, hz]) <;> exact rfl
  · (simp only [go_sem, Try.ntmps8, hs, ok, hq, bne_self_eq_false, ha, hb, ea, eb, ka, kb, fa, fb, eq, kq, fq, q1, q4, he, hm1, q7, hz]) <;> exact rfl
  · exact rfl
  · (simp only [go_sem, Try.ntmps8, hs, ok, hq, bne_self_eq_false, ha, hb, ea, eb, ka, kb, fa, fb, eq, kq, fq, q1, q4, he, hm1, q7, hz]) <;> exact rfl
  · (simp only [go_sem, Try.ntmps8, hs, ok, hq, bne_self_eq_false, ha, hb, ea, eb, ka, kb, fa, fb, eq, kq, fq, q1, q4, he, hm1, q7, hz]) <;> exact rfl
  · exact ⟨_, Try.func13, rfl, rfl⟩
  · (simp only [go_sem, Try.ntmps8, hs, ok, hq, bne_self_eq_false, ha, hb, ea, eb, ka, kb, fa, fb, eq, kq, fq, q1, q4, he, hm1, q7, hz]) <;> exact rfl
  · (simp only [go_sem, Try.ntmps8, hs, ok, hq, bne_self_eq_false, ha, hb, ea, eb, ka, kb, fa, fb, eq, kq, fq, q1, q4, he, hm1, q7, hz]) <;> exact rfl
  · exact ref_town _
  apply W_pre [6, 7, 8, 9, 10] [11, 12, 13]
  · (simp only [go_sem, Try.ntmps8, hs, ok, hq, bne_self_eq_false, ha, hb, ea, eb, ka, kb, fa, fb, eq, kq, fq, q1, q4, he, hm1, q7, hz]) <;> exact rfl
  apply W_call -- call 2 of function 14
  · (simp only [go_sem, Try.ntmps8, hs, ok, hq, bne_self_eq_false, ha, hb, ea, eb, ka, kb, fa, fb, eq, kq, fq, q1, q4, he, hm1, q7, hz]) <;> exact rfl
  · (simp only [go_sem, Try.ntmps8, hs, ok, hq, bne_self_eq_false, ha, hb, ea, eb, ka, kb, fa, fb, eq, kq, fq, q1, q4, he, hm1, q7, hz]) <;> exact rfl
  · exact rfl
  · (simp only [go_sem, Try.ntmps8, hs, ok, hq, bne_self_eq_false, ha, hb, ea, eb, ka, kb, fa, fb, eq, kq, fq, q1, q4, he, hm1, q7, hz]) <;> exact rfl
  · (simp only [go_sem, Try.ntmps8, hs, ok, hq, bne_self_eq_false, ha, hb, ea, eb, ka, kb, fa, fb, eq, kq, fq, q1, q4, he, hm1, q7, hz]) <;> exact rfl
  · exact ⟨_, Try.func14, rfl, rfl⟩
  · (simp only [go_sem, Try.ntmps8, hs, ok, hq, bne_self_eq_false, ha, hb, ea, eb, ka, kb, fa, fb, eq, kq, fq, q1, q4, he, hm1, q7, hz]) <;> exact rfl
  · (simp only [go_sem, Try.ntmps8, hs, ok, hq, bne_self_eq_false, ha, hb, ea, eb, ka, kb, fa, fb, eq, kq, fq, q1, q4, he, hm1, q7, hz]) <;> exact rfl
  · exact ref_plan _ _
  apply W_run
  · (simp only [go_sem, Try.ntmps8, hs, ok, hq, bne_self_eq_false, ha, hb, ea, eb, ka, kb, fa, fb, eq, kq, fq, q1, q4, he, hm1, q7, hz]) <;> exact rfl
  apply W_nil
  apply K_seq
  apply T_ifF -- h0
  · (simp only [go_sem, Try.ntmps8, hs, ok, hq, bne_self_eq_false, ha, hb, ea, eb, ka, kb, fa, fb, eq, kq, fq, q1, q4, he, hm1, q7, hz]) <;> exact rfl
  apply T_skip
  apply K_seq
  apply T_seq
  apply T_wL F [0, 1, 2, 3, 4, 5, 6, 7, 8] rfl
  apply W_pre [0] [1, 2, 3, 4, 5, 6, 7, 8]
  · (simp only [go_sem, Try.ntmps8, hs, ok, hq, bne_self_eq_false, ha, hb, ea, eb, ka, kb, fa, fb, eq, kq, fq, q1, q4, he, hm1, q7, hz]) <;> exact rfl
  apply W_call -- call 3 of function 26
  · (simp only [go_sem, Try.ntmps8, hs, ok, hq, bne_self_eq_false, ha, hb, ea, eb, ka, kb, fa, fb, eq, kq, fq, q1, q4, he, hm1, q7, hz]) <;> exact rfl
  · (simp only [go_sem, Try.ntmps8, hs, ok, hq, bne_self_eq_false, ha, hb, ea, eb, ka, kb, fa, fb, eq, kq, fq, q1, q4, he, hm1, q7, hz]) <;> exact rfl
  · exact rfl
  · (simp only [go_sem, Try.ntmps8, hs, ok, hq, bne_self_eq_false, ha, hb, ea, eb, ka, kb, fa, fb, eq, kq, fq, q1, q4, he, hm1, q7, hz]) <;> exact rfl
  · (simp only [go_sem, Try.ntmps8, hs, ok, hq, bne_self_eq_false, ha, hb, ea, eb, ka, kb, fa, fb, eq, kq, fq, q1, q4, he, hm1, q7, hz]) <;> exact rfl
  · exact ⟨_, Try.func26, rfl, rfl⟩
  · (simp only [go_sem, Try.ntmps8, hs, ok, hq, bne_self_eq_false, ha, hb, ea, eb, ka, kb, fa, fb, eq, kq, fq, q1, q4, he, hm1, q7, hz]) <;> exact rfl
  · (simp only [go_sem, Try.ntmps8, hs, ok, hq, bne_self_eq_false, ha, hb, ea, eb, ka, kb, fa, fb, eq, kq, fq, q1, q4, he, hm1, q7, hz]) <;> exact rfl
  · exact mv_BestC t hh ok a _ hBest
  apply W_pre [2, 3, 4, 5] [6, 7, 8]
  · (simp only [go_sem, Try.ntmps8, hs, ok, hq, bne_self_eq_false, ha, hb, ea, eb, ka, kb, fa, fb, eq, kq, fq, q1, q4, he, hm1, q7, hz]) <;> exact rfl
  apply W_run
  · (simp only [go_sem, Try.ntmps8, hs, ok, hq, bne_self_eq_false, ha, hb, ea, eb, ka, kb, fa, fb, eq, kq, fq, q1, q4, he, hm1, q7, hz]) <;> exact rfl
  apply W_nil
  apply K_seq
  apply T_seq
  apply T_wL F [0, 1, 2, 3, 4, 5, 6, 7, 8] rfl
  apply W_pre [0] [1, 2, 3, 4, 5, 6, 7, 8]
  · (simp only [go_sem, Try.ntmps8, hs, ok, hq, bne_self_eq_false, ha, hb, ea, eb, ka, kb, fa, fb, eq, kq, fq, q1, q4, he, hm1, q7, hz]) <;> exact rfl
  apply W_call -- call 4 of function 27
  · (simp only [go_sem, Try.ntmps8, hs, ok, hq, bne_self_eq_false, ha, hb, ea, eb, ka, kb, fa, fb, eq, kq, fq, q1, q4, he, hm1, q7, hz]) <;> exact rfl
  · (simp only [go_sem, Try.ntmps8, hs, ok, hq, bne_self_eq_false, ha, hb, ea, eb, ka, kb, fa, fb, eq, kq, fq, q1, q4, he, hm1, q7, hz]) <;> exact rfl
  · exact rfl
  · (simp only [go_sem, Try.ntmps8, hs, ok, hq, bne_self_eq_false, ha, hb, ea, eb, ka, kb, fa, fb, eq, kq, fq, q1, q4, he, hm1, q7, hz]) <;> exact rfl
  · (simp only [go_sem, Try.ntmps8, hs, ok, hq, bne_self_eq_false, ha, hb, ea, eb, ka, kb, fa, fb, eq, kq, fq, q1, q4, he, hm1, q7, hz]) <;> exact rfl
  · exact ⟨_, Try.func27, rfl, rfl⟩
  · (simp only [go_sem, Try.ntmps8, hs, ok, hq, bne_self_eq_false, ha, hb, ea, eb, ka, kb, fa, fb, eq, kq, fq, q1, q4, he, hm1, q7, hz]) <;> exact rfl
  · (simp only [go_sem, Try.ntmps8, hs, ok, hq, bne_self_eq_false, ha, hb, ea, eb, ka, kb, fa, fb, eq, kq, fq, q1, q4, he, hm1, q7, hz]) <;> exact rfl
  · exact mv_FairestC t hh ok b _ hFair
  apply W_pre [2, 3, 4, 5] [6, 7, 8]
  · (simp only [go_sem, Try.ntmps8, hs, ok, hq, bne_self_eq_false, ha, hb, ea, eb, ka, kb, fa, fb, eq, kq, fq, q1, q4, he, hm1, q7, hz]) <;> exact rfl
  apply W_run
  · (simp only [go_sem, Try.ntmps8, hs, ok, hq, bne_self_eq_false, ha, hb, ea, eb, ka, kb, fa, fb, eq, kq, fq, q1, q4, he, hm1, q7, hz]) <;> exact rfl
  apply W_nil
  apply K_seq
  apply T_seq
  apply T_wL F [0, 1, 2, 3, 4, 5, 6, 7] rfl
  apply W_pre [0, 1] [2, 3, 4, 5, 6, 7]
  · (simp only [go_sem, Try.ntmps8, hs, ok, hq, bne_self_eq_false, ha, hb, ea, eb, ka, kb, fa, fb, eq, kq, fq, q1, q4, he, hm1, q7, hz]) <;> exact rfl
  apply W_call -- call 5 of function 34
  · (simp only [go_sem, Try.ntmps8, hs, ok, hq, bne_self_eq_false, ha, hb, ea, eb, ka, kb, fa, fb, eq, kq, fq, q1, q4, he, hm1, q7, hz]) <;> exact rfl
  · (simp only [go_sem, Try.ntmps8, hs, ok, hq, bne_self_eq_false, ha, hb, ea, eb, ka, kb, fa, fb, eq, kq, fq, q1, q4, he, hm1, q7, hz]) <;> exact rfl
  · exact rfl
  · (simp only [go_sem, Try.ntmps8, hs, ok, hq, bne_self_eq_false, ha, hb, ea, eb, ka, kb, fa, fb, eq, kq, fq, q1, q4, he, hm1, q7, hz]) <;> exact rfl
  · (simp only [go_sem, Try.ntmps8, hs, ok, hq, bne_self_eq_false, ha, hb, ea, eb, ka, kb, fa, fb, eq, kq, fq, q1, q4, he, hm1, q7, hz]) <;> exact rfl
  · exact ⟨_, Try.func34, rfl, rfl⟩
  · (simp only [go_sem, Try.ntmps8, hs, ok, hq, bne_self_eq_false, ha, hb, ea, eb, ka, kb, fa, fb, eq, kq, fq, q1, q4, he, hm1, q7, hz]) <;> exact rfl
  · (simp only [go_sem, Try.ntmps8, hs, ok, hq, bne_self_eq_false, ha, hb, ea, eb, ka, kb, fa, fb, eq, kq, fq, q1, q4, he, hm1, q7, hz]) <;> exact rfl
  · exact mv_RanksAll (by omega)
  apply W_run
  · (simp only [go_sem, Try.ntmps8, hs, ok, hq, bne_self_eq_false, ha, hb, ea, eb, ka, kb, fa, fb, eq, kq, fq, q1, q4, he, hm1, q7, hz]) <;> exact rfl
  apply W_nil
  apply K_seq
  apply T_seq
  apply T_seq
  apply T_r F
  · (simp only [go_sem, Try.ntmps8, hs, ok, hq, bne_self_eq_false, ha, hb, ea, eb, ka, kb, fa, fb, eq, kq, fq, q1, q4, he, hm1, q7, hz]) <;> exact rfl
  apply K_seq
  apply T_ifF -- h1
  · (simp only [go_sem, Try.ntmps8, hs, ok, hq, bne_self_eq_false, ha, hb, ea, eb, ka, kb, fa, fb, eq, kq, fq, q1, q4, he, hm1, q7, hz]) <;> exact rfl
  apply T_skip
  apply K_seq
  apply T_seq
  apply T_seq
  apply T_wL F [0, 1, 2, 3, 4, 5, 6, 7, 8, 9, 10, 11, 12, 13] rfl
  apply W_pre [0, 1, 2, 3, 4] [5, 6, 7, 8, 9, 10, 11, 12, 13]
  · (simp only [go_sem, Try.ntmps8, hs, ok, hq, bne_self_eq_false, ha, hb, ea, eb, ka, kb, fa, fb, eq, kq, fq, q1, q4, he, hm1, q7, hz]) <;> exact rfl
  apply W_call -- call 6 of function 14
  · (simp only [go_sem, Try.ntmps8, hs, ok, hq, bne_self_eq_false, ha, hb, ea, eb, ka, kb, fa, fb, eq, kq, fq, q1, q4, he, hm1, q7, hz]) <;> exact rfl
  · (simp only [go_sem, Try.ntmps8, hs, ok, hq, bne_self_eq_false, ha, hb, ea, eb, ka, kb, fa, fb, eq, kq, fq, q1, q4, he, hm1, q7, hz]) <;> exact rfl
  · exact rfl
  · (simp only [go_sem, Try.ntmps8, hs, ok, hq, bne_self_eq_false, ha, hb, ea, eb, ka, kb, fa, fb, eq, kq, fq, q1, q4, he, hm1, q7, hz]) <;> exact rfl
  · (simp only [go_sem, Try.ntmps8, hs, ok, hq, bne_self_eq_false, ha, hb, ea, eb, ka, kb, fa, fb, eq, kq, fq, q1, q4, he, hm1, q7, hz]) <;> exact rfl
  · exact ⟨_, Try.func14, rfl, rfl⟩
  · (simp only [go_sem, Try.ntmps8, hs, ok, hq, bne_self_eq_false, ha, hb, ea, eb, ka, kb, fa, fb, eq, kq, fq, q1, q4, he, hm1, q7, hz]) <;> exact rfl
  · (simp only [go_sem, Try.ntmps8, hs, ok, hq, bne_self_eq_false, ha, hb, ea, eb, ka, kb, fa, fb, eq, kq, fq, q1, q4, he, hm1, q7, hz]) <;> exact rfl
  · exact ref_plan _ _
  apply W_pre [6, 7, 8, 9, 10] [11, 12, 13]
  · (simp only [go_sem, Try.ntmps8, hs, ok, hq, bne_self_eq_false, ha, hb, ea, eb, ka, kb, fa, fb, eq, kq, fq, q1, q4, he, hm1, q7, hz]) <;> exact rfl
  apply W_call -- call 7 of function 14
  · (simp only [go_sem, Try.ntmps8, hs, ok, hq, bne_self_eq_false, ha, hb, ea, eb, ka, kb, fa, fb, eq, kq, fq, q1, q4, he, hm1, q7, hz]) <;> exact rfl
  · (simp only [go_sem, Try.ntmps8, hs, ok, hq, bne_self_eq_false, ha, hb, ea, eb, ka, kb, fa, fb, eq, kq, fq, q1, q4, he, hm1, q7, hz]) <;> exact rfl
  · exact rfl
  · (simp only [go_sem, Try.ntmps8, hs, ok, hq, bne_self_eq_false, ha, hb, ea, eb, ka, kb, fa, fb, eq, kq, fq, q1, q4, he, hm1, q7, hz]) <;> exact rfl
  · (simp only [go_sem, Try.ntmps8, hs, ok, hq, bne_self_eq_false, ha, hb, ea, eb, ka, kb, fa, fb, eq, kq, fq, q1, q4, he, hm1, q7, hz]) <;> exact rfl
  · exact ⟨_, Try.func14, rfl, rfl⟩
  · (simp only [go_sem, Try.ntmps8, hs, ok, hq, bne_self_eq_false, ha, hb, ea, eb, ka, kb, fa, fb, eq, kq, fq, q1, q4, he, hm1, q7, hz]) <;> exact rfl
  · (simp only [go_sem, Try.ntmps8, hs, ok, hq, bne_self_eq_false, ha, hb, ea, eb, ka, kb, fa, fb, eq, kq, fq, q1, q4, he, hm1, q7, hz]) <;> exact rfl
  · exact ref_plan _ _
  apply W_run
  · (simp only [go_sem, Try.ntmps8, hs, ok, hq, bne_self_eq_false, ha, hb, ea, eb, ka, kb, fa, fb, eq, kq, fq, q1, q4, he, hm1, q7, hz]) <;> exact rfl
  apply W_nil
  apply K_seq
  apply T_ifF -- h2
  · (simp only [go_sem, Try.ntmps8, hs, ok, hq, bne_self_eq_false, ha, hb, ea, eb, ka, kb, fa, fb, eq, kq, fq, q1, q4, he, hm1, q7, hz]) <;> exact rfl
  apply T_skip
  apply K_seq
  apply T_seq
  apply T_wL F [0, 1, 2, 3, 4, 5, 6, 7] rfl
  apply W_pre [0, 1] [2, 3, 4, 5, 6, 7]
  · (simp only [go_sem, Try.ntmps8, hs, ok, hq, bne_self_eq_false, ha, hb, ea, eb, ka, kb, fa, fb, eq, kq, fq, q1, q4, he, hm1, q7, hz]) <;> exact rfl
  apply W_call -- call 8 of function 34
  · (simp only [go_sem, Try.ntmps8, hs, ok, hq, bne_self_eq_false, ha, hb, ea, eb, ka, kb, fa, fb, eq, kq, fq, q1, q4, he, hm1, q7, hz]) <;> exact rfl
  · (simp only [go_sem, Try.ntmps8, hs, ok, hq, bne_self_eq_false, ha, hb, ea, eb, ka, kb, fa, fb, eq, kq, fq, q1, q4, he, hm1, q7, hz]) <;> exact rfl
  · exact rfl
  · (simp only [go_sem, Try.ntmps8, hs, ok, hq, bne_self_eq_false, ha, hb, ea, eb, ka, kb, fa, fb, eq, kq, fq, q1, q4, he, hm1, q7, hz]) <;> exact rfl
  · (simp only [go_sem, Try.ntmps8, hs, ok, hq, bne_self_eq_false, ha, hb, ea, eb, ka, kb, fa, fb, eq, kq, fq, q1, q4, he, hm1, q7, hz]) <;> exact rfl
  · exact ⟨_, Try.func34, rfl, rfl⟩
  · (simp only [go_sem, Try.ntmps8, hs, ok, hq, bne_self_eq_false, ha, hb, ea, eb, ka, kb, fa, fb, eq, kq, fq, q1, q4, he, hm1, q7, hz]) <;> exact rfl
  · (simp only [go_sem, Try.ntmps8, hs, ok, hq, bne_self_eq_false, ha, hb, ea, eb, ka, kb, fa, fb, eq, kq, fq, q1, q4, he, hm1, q7, hz]) <;> exact rfl
  · exact mv_RanksAll (by omega)
  apply W_run
  · (simp only [go_sem, Try.ntmps8, hs, ok, hq, bne_self_eq_false, ha, hb, ea, eb, ka, kb, fa, fb, eq, kq, fq, q1, q4, he, hm1, q7, hz]) <;> exact rfl
  apply W_nil
  apply K_seq
  apply T_seq
  apply T_wL F [0, 1, 2, 3, 4, 5, 6, 7] rfl
  apply W_pre [0, 1] [2, 3, 4, 5, 6, 7]
  · (simp only [go_sem, Try.ntmps8, hs, ok, hq, bne_self_eq_false, ha, hb, ea, eb, ka, kb, fa, fb, eq, kq, fq, q1, q4, he, hm1, q7, hz]) <;> exact rfl
  apply W_call -- call 9 of function 34
  · (simp only [go_sem, Try.ntmps8, hs, ok, hq, bne_self_eq_false, ha, hb, ea, eb, ka, kb, fa, fb, eq, kq, fq, q1, q4, he, hm1, q7, hz]) <;> exact rfl
  · (simp only [go_sem, Try.ntmps8, hs, ok, hq, bne_self_eq_false, ha, hb, ea, eb, ka, kb, fa, fb, eq, kq, fq, q1, q4, he, hm1, q7, hz]) <;> exact rfl
  · exact rfl
  · (simp only [go_sem, Try.ntmps8, hs, ok, hq, bne_self_eq_false, ha, hb, ea, eb, ka, kb, fa, fb, eq, kq, fq, q1, q4, he, hm1, q7, hz]) <;> exact rfl
  · (simp only [go_sem, Try.ntmps8, hs, ok, hq, bne_self_eq_false, ha, hb, ea, eb, ka, kb, fa, fb, eq, kq, fq, q1, q4, he, hm1, q7, hz]) <;> exact rfl
  · exact ⟨_, Try.func34, rfl, rfl⟩
  · (simp only [go_sem, Try.ntmps8, hs, ok, hq, bne_self_eq_false, ha, hb, ea, eb, ka, kb, fa, fb, eq, kq, fq, q1, q4, he, hm1, q7, hz]) <;> exact rfl
  · (simp only [go_sem, Try.ntmps8, hs, ok, hq, bne_self_eq_false, ha, hb, ea, eb, ka, kb, fa, fb, eq, kq, fq, q1, q4, he, hm1, q7, hz]) <;> exact rfl
  · exact mv_RanksAll (by omega)
  apply W_run
  · (simp only [go_sem, Try.ntmps8, hs, ok, hq, bne_self_eq_false, ha, hb, ea, eb, ka, kb, fa, fb, eq, kq, fq, q1, q4, he, hm1, q7, hz]) <;> exact rfl
  apply W_nil
  apply K_seq
  apply T_seq
  apply T_seq
  apply T_wL F [0, 1, 2, 3, 4, 5, 6, 7, 8, 9, 10, 11, 12, 13, 14, 15, 16, 17, 18, 19, 20, 21, 22, 23, 24, 25, 26, 27, 28, 29] rfl
  apply W_pre [0, 1, 2, 3] [4, 5, 6, 7, 8, 9, 10, 11, 12, 13, 14, 15, 16, 17, 18, 19, 20, 21, 22, 23, 24, 25, 26, 27, 28, 29]
  · (simp only [go_sem, Try.ntmps8, hs, ok, hq, bne_self_eq_false, ha, hb, ea, eb, ka, kb, fa, fb, eq, kq, fq, q1, q4, he, hm1, q7, hz]) <;> exact rfl
  apply W_pre [4, 5, 6, 7, 8] [9, 10, 11, 12, 13, 14, 15, 16, 17, 18, 19, 20, 21, 22, 23, 24, 25, 26, 27, 28, 29]
  · (simp only [go_sem, Try.ntmps8, hs, ok, hq, bne_self_eq_false, ha, hb, ea, eb, ka, kb, fa, fb, eq, kq, fq, q1, q4, he, hm1, q7, hz]) <;> exact rfl
  apply W_call -- call 10 of function 35
  · (simp only [go_sem, Try.ntmps8, hs, ok, hq, bne_self_eq_false, ha, hb, ea, eb, ka, kb, fa, fb, eq, kq, fq, q1, q4, he, hm1, q7, hz]) <;> exact rfl
  · (simp only [go_sem, Try.ntmps8, hs, ok, hq, bne_self_eq_false, ha, hb, ea, eb, ka, kb, fa, fb, eq, kq, fq, q1, q4, he, hm1, q7, hz]) <;> exact rfl
  · exact rfl
  · (simp only [go_sem, Try.ntmps8, hs, ok, hq, bne_self_eq_false, ha, hb, ea, eb, ka, kb, fa, fb, eq, kq, fq, q1, q4, he, hm1, q7, hz]) <;> exact rfl
  · (simp only [go_sem, Try.ntmps8, hs, ok, hq, bne_self_eq_false, ha, hb, ea, eb, ka, kb, fa, fb, eq, kq, fq, q1, q4, he, hm1, q7, hz]) <;> exact rfl
  · exact ⟨_, Try.func35, rfl, rfl⟩
  · (simp only [go_sem, Try.ntmps8, hs, ok, hq, bne_self_eq_false, ha, hb, ea, eb, ka, kb, fa, fb, eq, kq, fq, q1, q4, he, hm1, q7, hz]) <;> exact rfl
  · (simp only [go_sem, Try.ntmps8, hs, ok, hq, bne_self_eq_false, ha, hb, ea, eb, ka, kb, fa, fb, eq, kq, fq, q1, q4, he, hm1, q7, hz]) <;> exact rfl
  · exact law_fine _ _
  apply W_pre [10, 11, 12, 13, 14] [15, 16, 17, 18, 19, 20, 21, 22, 23, 24, 25, 26, 27, 28, 29]
  · (simp only [go_sem, Try.ntmps8, hs, ok, hq, bne_self_eq_false, ha, hb, ea, eb, ka, kb, fa, fb, eq, kq, fq, q1, q4, he, hm1, q7, hz]) <;> exact rfl
  apply W_call -- call 11 of function 35
  · (simp only [go_sem, Try.ntmps8, hs, ok, hq, bne_self_eq_false, ha, hb, ea, eb, ka, kb, fa, fb, eq, kq, fq, q1, q4, he, hm1, q7, hz]) <;> exact rfl
  · (simp only [go_sem, Try.ntmps8, hs, ok, hq, bne_self_eq_false, ha, hb, ea, eb, ka, kb, fa, fb, eq, kq, fq, q1, q4, he, hm1, q7, hz]) <;> exact rfl
  · exact rfl
  · (simp only [go_sem, Try.ntmps8, hs, ok, hq, bne_self_eq_false, ha, hb, ea, eb, ka, kb, fa, fb, eq, kq, fq, q1, q4, he, hm1, q7, hz]) <;> exact rfl
  · (simp only [go_sem, Try.ntmps8, hs, ok, hq, bne_self_eq_false, ha, hb, ea, eb, ka, kb, fa, fb, eq, kq, fq, q1, q4, he, hm1, q7, hz]) <;> exact rfl
  · exact ⟨_, Try.func35, rfl, rfl⟩
  · (simp only [go_sem, Try.ntmps8, hs, ok, hq, bne_self_eq_false, ha, hb, ea, eb, ka, kb, fa, fb, eq, kq, fq, q1, q4, he, hm1, q7, hz]) <;> exact rfl
  · (simp only [go_sem, Try.ntmps8, hs, ok, hq, bne_self_eq_false, ha, hb, ea, eb, ka, kb, fa, fb, eq, kq, fq, q1, q4, he, hm1, q7, hz]) <;> exact rfl
  · exact law_fine _ _
  apply W_pre [16, 17, 18, 19] [20, 21, 22, 23, 24, 25, 26, 27, 28, 29]
  · (simp only [go_sem, Try.ntmps8, hs, ok, hq, bne_self_eq_false, ha, hb, ea, eb, ka, kb, fa, fb, eq, kq, fq, q1, q4, he, hm1, q7, hz]) <;> exact rfl
  apply W_call -- call 12 of function 30
  · (simp only [go_sem, Try.ntmps8, hs, ok, hq, bne_self_eq_false, ha, hb, ea, eb, ka, kb, fa, fb, eq, kq, fq, q1, q4, he, hm1, q7, hz]) <;> exact rfl
  · (simp only [go_sem, Try.ntmps8, hs, ok, hq, bne_self_eq_false, ha, hb, ea, eb, ka, kb, fa, fb, eq, kq, fq, q1, q4, he, hm1, q7, hz]) <;> exact rfl
  · exact rfl
  · (simp only [go_sem, Try.ntmps8, hs, ok, hq, bne_self_eq_false, ha, hb, ea, eb, ka, kb, fa, fb, eq, kq, fq, q1, q4, he, hm1, q7, hz]) <;> exact rfl
  · (simp only [go_sem, Try.ntmps8, hs, ok, hq, bne_self_eq_false, ha, hb, ea, eb, ka, kb, fa, fb, eq, kq, fq, q1, q4, he, hm1, q7, hz]) <;> exact rfl
  · exact ⟨_, Try.func30, rfl, rfl⟩
  · (simp only [go_sem, Try.ntmps8, hs, ok, hq, bne_self_eq_false, ha, hb, ea, eb, ka, kb, fa, fb, eq, kq, fq, q1, q4, he, hm1, q7, hz]) <;> exact rfl
  · (simp only [go_sem, Try.ntmps8, hs, ok, hq, bne_self_eq_false, ha, hb, ea, eb, ka, kb, fa, fb, eq, kq, fq, q1, q4, he, hm1, q7, hz]) <;> exact rfl
  · exact ref_sum _ (M.ranks_wide ok) (by omega)
  apply W_pre [21, 22, 23, 24, 25] [26, 27, 28, 29]
  · (simp only [go_sem, Try.ntmps8, hs, ok, hq, bne_self_eq_false, ha, hb, ea, eb, ka, kb, fa, fb, eq, kq, fq, q1, q4, he, hm1, q7, hz]) <;> exact rfl
  apply W_call -- call 13 of function 32
  · (simp only [go_sem, Try.ntmps8, hs, ok, hq, bne_self_eq_false, ha, hb, ea, eb, ka, kb, fa, fb, eq, kq, fq, q1, q4, he, hm1, q7, hz]) <;> exact rfl
  · (simp only [go_sem, Try.ntmps8, hs, ok, hq, bne_self_eq_false, ha, hb, ea, eb, ka, kb, fa, fb, eq, kq, fq, q1, q4, he, hm1, q7, hz]) <;> exact rfl
  · exact rfl
  · (simp only [go_sem, Try.ntmps8, hs, ok, hq, bne_self_eq_false, ha, hb, ea, eb, ka, kb, fa, fb, eq, kq, fq, q1, q4, he, hm1, q7, hz]) <;> exact rfl
  · (simp only [go_sem, Try.ntmps8, hs, ok, hq, bne_self_eq_false, ha, hb, ea, eb, ka, kb, fa, fb, eq, kq, fq, q1, q4, he, hm1, q7, hz]) <;> exact rfl
  · exact ⟨_, Try.func32, rfl, rfl⟩
  · (simp only [go_sem, Try.ntmps8, hs, ok, hq, bne_self_eq_false, ha, hb, ea, eb, ka, kb, fa, fb, eq, kq, fq, q1, q4, he, hm1, q7, hz]) <;> exact rfl
  · (simp only [go_sem, Try.ntmps8, hs, ok, hq, bne_self_eq_false, ha, hb, ea, eb, ka, kb, fa, fb, eq, kq, fq, q1, q4, he, hm1, q7, hz]) <;> exact rfl
  · exact ref_most _
  apply W_run
  · (simp only [go_sem, Try.ntmps8, hs, ok, hq, bne_self_eq_false, ha, hb, ea, eb, ka, kb, fa, fb, eq, kq, fq, q1, q4, he, hm1, q7, hz]) <;> exact rfl
  apply W_nil
  apply K_seq
  apply T_ifF -- h3
  · (simp only [go_sem, Try.ntmps8, hs, ok, hq, bne_self_eq_false, ha, hb, ea, eb, ka, kb, fa, fb, eq, kq, fq, q1, q4, he, hm1, q7, hz]) <;> exact rfl
  apply T_skip
  apply K_seq
  apply T_seq
  apply T_seq
  apply T_r F
  · (simp only [go_sem, Try.ntmps8, hs, ok, hq, bne_self_eq_false, ha, hb, ea, eb, ka, kb, fa, fb, eq, kq, fq, q1, q4, he, hm1, q7, hz]) <;> exact rfl
  apply K_seq
  apply T_ifF -- h4
  · (simp only [go_sem, Try.ntmps8, hs, ok, hq, bne_self_eq_false, ha, hb, ea, eb, ka, kb, fa, fb, eq, kq, fq, q1, q4, he, hm1, q7, hz]) <;> exact rfl
  apply T_skip
  apply K_seq
  apply T_seq
  apply T_seq
  apply T_wL F [0, 1, 2, 3] rfl
  apply W_pre [0, 1] [2, 3]
  · (simp only [go_sem, Try.ntmps8, hs, ok, hq, bne_self_eq_false, ha, hb, ea, eb, ka, kb, fa, fb, eq, kq, fq, q1, q4, he, hm1, q7, hz]) <;> exact rfl
  apply W_call -- call 14 of function 35
  · (simp only [go_sem, Try.ntmps8, hs, ok, hq, bne_self_eq_false, ha, hb, ea, eb, ka, kb, fa, fb, eq, kq, fq, q1, q4, he, hm1, q7, hz]) <;> exact rfl
  · (simp only [go_sem, Try.ntmps8, hs, ok, hq, bne_self_eq_false, ha, hb, ea, eb, ka, kb, fa, fb, eq, kq, fq, q1, q4, he, hm1, q7, hz]) <;> exact rfl
  · exact rfl
  · (simp only [go_sem, Try.ntmps8, hs, ok, hq, bne_self_eq_false, ha, hb, ea, eb, ka, kb, fa, fb, eq, kq, fq, q1, q4, he, hm1, q7, hz]) <;> exact rfl
  · (simp only [go_sem, Try.ntmps8, hs, ok, hq, bne_self_eq_false, ha, hb, ea, eb, ka, kb, fa, fb, eq, kq, fq, q1, q4, he, hm1, q7, hz]) <;> exact rfl
  · exact ⟨_, Try.func35, rfl, rfl⟩
  · (simp only [go_sem, Try.ntmps8, hs, ok, hq, bne_self_eq_false, ha, hb, ea, eb, ka, kb, fa, fb, eq, kq, fq, q1, q4, he, hm1, q7, hz]) <;> exact rfl
  · (simp only [go_sem, Try.ntmps8, hs, ok, hq, bne_self_eq_false, ha, hb, ea, eb, ka, kb, fa, fb, eq, kq, fq, q1, q4, he, hm1, q7, hz]) <;> exact rfl
  · exact law_fine _ _
  apply W_run
  · (simp only [go_sem, Try.ntmps8, hs, ok, hq, bne_self_eq_false, ha, hb, ea, eb, ka, kb, fa, fb, eq, kq, fq, q1, q4, he, hm1, q7, hz]) <;> exact rfl
  apply W_nil
  apply K_seq
  apply T_ifF -- h5
  · (simp only [go_sem, Try.ntmps8, hs, ok, hq, bne_self_eq_false, ha, hb, ea, eb, ka, kb, fa, fb, eq, kq, fq, q1, q4, he, hm1, q7, hz]) <;> exact rfl
  apply T_skip
  apply K_seq
  apply T_seq
  apply T_wL F [0, 1, 2, 3, 4, 5] rfl
  apply W_pre [0] [1, 2, 3, 4, 5]
  · (simp only [go_sem, Try.ntmps8, hs, ok, hq, bne_self_eq_false, ha, hb, ea, eb, ka, kb, fa, fb, eq, kq, fq, q1, q4, he, hm1, q7, hz]) <;> exact rfl
  apply W_call -- call 15 of function 30
  · (simp only [go_sem, Try.ntmps8, hs, ok, hq, bne_self_eq_false, ha, hb, ea, eb, ka, kb, fa, fb, eq, kq, fq, q1, q4, he, hm1, q7, hz]) <;> exact rfl
  · (simp only [go_sem, Try.ntmps8, hs, ok, hq, bne_self_eq_false, ha, hb, ea, eb, ka, kb, fa, fb, eq, kq, fq, q1, q4, he, hm1, q7, hz]) <;> exact rfl
  · exact rfl
  · (simp only [go_sem, Try.ntmps8, hs, ok, hq, bne_self_eq_false, ha, hb, ea, eb, ka, kb, fa, fb, eq, kq, fq, q1, q4, he, hm1, q7, hz]) <;> exact rfl
  · (simp only [go_sem, Try.ntmps8, hs, ok, hq, bne_self_eq_false, ha, hb, ea, eb, ka, kb, fa, fb, eq, kq, fq, q1, q4, he, hm1, q7, hz]) <;> exact rfl
  · exact ⟨_, Try.func30, rfl, rfl⟩
  · (simp only [go_sem, Try.ntmps8, hs, ok, hq, bne_self_eq_false, ha, hb, ea, eb, ka, kb, fa, fb, eq, kq, fq, q1, q4, he, hm1, q7, hz]) <;> exact rfl
  · (simp only [go_sem, Try.ntmps8, hs, ok, hq, bne_self_eq_false, ha, hb, ea, eb, ka, kb, fa, fb, eq, kq, fq, q1, q4, he, hm1, q7, hz]) <;> exact rfl
  · exact ref_sum _ (M.ranks_wide ok) (by omega)
  apply W_pre [2] [3, 4, 5]
  · (simp only [go_sem, Try.ntmps8, hs, ok, hq, bne_self_eq_false, ha, hb, ea, eb, ka, kb, fa, fb, eq, kq, fq, q1, q4, he, hm1, q7, hz]) <;> exact rfl
  apply W_call -- call 16 of function 32
  · (simp only [go_sem, Try.ntmps8, hs, ok, hq, bne_self_eq_false, ha, hb, ea, eb, ka, kb, fa, fb, eq, kq, fq, q1, q4, he, hm1, q7, hz]) <;> exact rfl
  · (simp only [go_sem, Try.ntmps8, hs, ok, hq, bne_self_eq_false, ha, hb, ea, eb, ka, kb, fa, fb, eq, kq, fq, q1, q4, he, hm1, q7, hz]) <;> exact rfl
  · exact rfl
  · (simp only [go_sem, Try.ntmps8, hs, ok, hq, bne_self_eq_false, ha, hb, ea, eb, ka, kb, fa, fb, eq, kq, fq, q1, q4, he, hm1, q7, hz]) <;> exact rfl
  · (simp only [go_sem, Try.ntmps8, hs, ok, hq, bne_self_eq_false, ha, hb, ea, eb, ka, kb, fa, fb, eq, kq, fq, q1, q4, he, hm1, q7, hz]) <;> exact rfl
  · exact ⟨_, Try.func32, rfl, rfl⟩
  · (simp only [go_sem, Try.ntmps8, hs, ok, hq, bne_self_eq_false, ha, hb, ea, eb, ka, kb, fa, fb, eq, kq, fq, q1, q4, he, hm1, q7, hz]) <;> exact rfl
  · (simp only [go_sem, Try.ntmps8, hs, ok, hq, bne_self_eq_false, ha, hb, ea, eb, ka, kb, fa, fb, eq, kq, fq, q1, q4, he, hm1, q7, hz]) <;> exact rfl
  · exact ref_most _
  apply W_run
  · (simp only [go_sem, Try.ntmps8, hs, ok, hq, bne_self_eq_false, ha, hb, ea, eb, ka, kb, fa, fb, eq, kq, fq, q1, q4, he, hm1, q7, hz]) <;> exact rfl
  apply W_nil
  apply K_seq
  apply T_seq
  apply T_seq
  apply T_wL F [0, 1, 2, 3, 4, 5, 6, 7, 8, 9, 10, 11, 12] rfl
  apply W_pre [0, 1, 2, 3] [4, 5, 6, 7, 8, 9, 10, 11, 12]
  · (simp only [go_sem, Try.ntmps8, hs, ok, hq, bne_self_eq_false, ha, hb, ea, eb, ka, kb, fa, fb, eq, kq, fq, q1, q4, he, hm1, q7, hz]) <;> exact rfl
  apply W_pre [4, 5, 6, 7] [8, 9, 10, 11, 12]
  · (simp only [go_sem, Try.ntmps8, hs, ok, hq, bne_self_eq_false, ha, hb, ea, eb, ka, kb, fa, fb, eq, kq, fq, q1, q4, he, hm1, q7, hz]) <;> exact rfl
  apply W_run
  · (simp only [go_sem, Try.ntmps8, hs, ok, hq, bne_self_eq_false, ha, hb, ea, eb, ka, kb, fa, fb, eq, kq, fq, q1, q4, he, hm1, q7, hz]) <;> exact rfl
  apply W_nil
  apply K_seq
  apply T_ifF -- h6
  · (simp only [go_sem, Try.ntmps8, hs, ok, hq, bne_self_eq_false, ha, hb, ea, eb, ka, kb, fa, fb, eq, kq, fq, q1, q4, he, hm1, q7, hz]) <;> exact rfl
  apply T_skip
  apply K_seq
  apply T_seq
  apply T_wL F [0, 1, 2, 3, 4, 5, 6, 7, 8, 9, 10, 11, 12, 13, 14, 15, 16, 17, 18, 19, 20, 21, 22, 23, 24, 25, 26, 27, 28, 29, 30, 31, 32, 33, 34] rfl
  apply W_pre [0, 1, 2, 3] [4, 5, 6, 7, 8, 9, 10, 11, 12, 13, 14, 15, 16, 17, 18, 19, 20, 21, 22, 23, 24, 25, 26, 27, 28, 29, 30, 31, 32, 33, 34]
  · (simp only [go_sem, Try.ntmps8, hs, ok, hq, bne_self_eq_false, ha, hb, ea, eb, ka, kb, fa, fb, eq, kq, fq, q1, q4, he, hm1, q7, hz]) <;> exact rfl
  apply W_pre [4, 5, 6, 7, 8, 9] [10, 11, 12, 13, 14, 15, 16, 17, 18, 19, 20, 21, 22, 23, 24, 25, 26, 27, 28, 29, 30, 31, 32, 33, 34]
  · (simp only [go_sem, Try.ntmps8, hs, ok, hq, bne_self_eq_false, ha, hb, ea, eb, ka, kb, fa, fb, eq, kq, fq, q1, q4, he, hm1, q7, hz]) <;> exact rfl
  apply W_call -- call 17 of function 30
  · (simp only [go_sem, Try.ntmps8, hs, ok, hq, bne_self_eq_false, ha, hb, ea, eb, ka, kb, fa, fb, eq, kq, fq, q1, q4, he, hm1, q7, hz]) <;> exact rfl
  · (simp only [go_sem, Try.ntmps8, hs, ok, hq, bne_self_eq_false, ha, hb, ea, eb, ka, kb, fa, fb, eq, kq, fq, q1, q4, he, hm1, q7, hz]) <;> exact rfl
  · exact rfl
  · (simp only [go_sem, Try.ntmps8, hs, ok, hq, bne_self_eq_false, ha, hb, ea, eb, ka, kb, fa, fb, eq, kq, fq, q1, q4, he, hm1, q7, hz]) <;> exact rfl
  · (simp only [go_sem, Try.ntmps8, hs, ok, hq, bne_self_eq_false, ha, hb, ea, eb, ka, kb, fa, fb, eq, kq, fq, q1, q4, he, hm1, q7, hz]) <;> exact rfl
  · exact ⟨_, Try.func30, rfl, rfl⟩
  · (simp only [go_sem, Try.ntmps8, hs, ok, hq, bne_self_eq_false, ha, hb, ea, eb, ka, kb, fa, fb, eq, kq, fq, q1, q4, he, hm1, q7, hz]) <;> exact rfl
  · (simp only [go_sem, Try.ntmps8, hs, ok, hq, bne_self_eq_false, ha, hb, ea, eb, ka, kb, fa, fb, eq, kq, fq, q1, q4, he, hm1, q7, hz]) <;> exact rfl
  · exact ref_sum _ (M.ranks_wide ok) (by omega)
  apply W_pre [11, 12, 13, 14] [15, 16, 17, 18, 19, 20, 21, 22, 23, 24, 25, 26, 27, 28, 29, 30, 31, 32, 33, 34]
  · (simp only [go_sem, Try.ntmps8, hs, ok, hq, bne_self_eq_false, ha, hb, ea, eb, ka, kb, fa, fb, eq, kq, fq, q1, q4, he, hm1, q7, hz]) <;> exact rfl
  apply W_pre [15, 16, 17, 18, 19, 20] [21, 22, 23, 24, 25, 26, 27, 28, 29, 30, 31, 32, 33, 34]
  · (simp only [go_sem, Try.ntmps8, hs, ok, hq, bne_self_eq_false, ha, hb, ea, eb, ka, kb, fa, fb, eq, kq, fq, q1, q4, he, hm1, q7, hz]) <;> exact rfl
  apply W_call -- call 18 of function 30
  · (simp only [go_sem, Try.ntmps8, hs, ok, hq, bne_self_eq_false, ha, hb, ea, eb, ka, kb, fa, fb, eq, kq, fq, q1, q4, he, hm1, q7, hz]) <;> exact rfl
  · (simp only [go_sem, Try.ntmps8, hs, ok, hq, bne_self_eq_false, ha, hb, ea, eb, ka, kb, fa, fb, eq, kq, fq, q1, q4, he, hm1, q7, hz]) <;> exact rfl
  · exact rfl
  · (simp only [go_sem, Try.ntmps8, hs, ok, hq, bne_self_eq_false, ha, hb, ea, eb, ka, kb, fa, fb, eq, kq, fq, q1, q4, he, hm1, q7, hz]) <;> exact rfl
  · (simp only [go_sem, Try.ntmps8, hs, ok, hq, bne_self_eq_false, ha, hb, ea, eb, ka, kb, fa, fb, eq, kq, fq, q1, q4, he, hm1, q7, hz]) <;> exact rfl
  · exact ⟨_, Try.func30, rfl, rfl⟩
  · (simp only [go_sem, Try.ntmps8, hs, ok, hq, bne_self_eq_false, ha, hb, ea, eb, ka, kb, fa, fb, eq, kq, fq, q1, q4, he, hm1, q7, hz]) <;> exact rfl
  · (simp only [go_sem, Try.ntmps8, hs, ok, hq, bne_self_eq_false, ha, hb, ea, eb, ka, kb, fa, fb, eq, kq, fq, q1, q4, he, hm1, q7, hz]) <;> exact rfl
  · exact ref_sum _ (M.ranks_wide ok) (by omega)
  apply W_pre [22, 23, 24, 25] [26, 27, 28, 29, 30, 31, 32, 33, 34]
  · (simp only [go_sem, Try.ntmps8, hs, ok, hq, bne_self_eq_false, ha, hb, ea, eb, ka, kb, fa, fb, eq, kq, fq, q1, q4, he, hm1, q7, hz]) <;> exact rfl
  apply W_pre [26, 27, 28, 29, 30, 31] [32, 33, 34]
  · (simp only [go_sem, Try.ntmps8, hs, ok, hq, bne_self_eq_false, ha, hb, ea, eb, ka, kb, fa, fb, eq, kq, fq, q1, q4, he, hm1, q7, hz]) <;> exact rfl
  apply W_call -- call 19 of function 16
  · (simp only [go_sem, Try.ntmps8, hs, ok, hq, bne_self_eq_false, ha, hb, ea, eb, ka, kb, fa, fb, eq, kq, fq, q1, q4, he, hm1, q7, hz]) <;> exact rfl
  · (simp only [go_sem, Try.ntmps8, hs, ok, hq, bne_self_eq_false, ha, hb, ea, eb, ka, kb, fa, fb, eq, kq, fq, q1, q4, he, hm1, q7, hz]) <;> exact rfl
  · exact rfl
  · (simp only [go_sem, Try.ntmps8, hs, ok, hq, bne_self_eq_false, ha, hb, ea, eb, ka, kb, fa, fb, eq, kq, fq, q1, q4, he, hm1, q7, hz]) <;> exact rfl
  · (simp only [go_sem, Try.ntmps8, hs, ok, hq, bne_self_eq_false, ha, hb, ea, eb, ka, kb, fa, fb, eq, kq, fq, q1, q4, he, hm1, q7, hz]) <;> exact rfl
  · exact ⟨_, Try.func16, rfl, rfl⟩
  · (simp only [go_sem, Try.ntmps8, hs, ok, hq, bne_self_eq_false, ha, hb, ea, eb, ka, kb, fa, fb, eq, kq, fq, q1, q4, he, hm1, q7, hz]) <;> exact rfl
  · (simp only [go_sem, Try.ntmps8, hs, ok, hq, bne_self_eq_false, ha, hb, ea, eb, ka, kb, fa, fb, eq, kq, fq, q1, q4, he, hm1, q7, hz]) <;> exact rfl
  · exact known_ok
  apply W_run
  · (simp only [go_sem, Try.ntmps8, hs, ok, hq, bne_self_eq_false, ha, hb, ea, eb, ka, kb, fa, fb, eq, kq, fq, q1, q4, he, hm1, q7, hz]) <;> exact rfl
  apply W_nil
  apply K_seq
  apply T_ret
  apply fin_ret
  · (simp only [go_sem, Try.ntmps8, hs, ok, hq, bne_self_eq_false, ha, hb, ea, eb, ka, kb, fa, fb, eq, kq, fq, q1, q4, he, hm1, q7, hz, Try.f8]) <;> exact rfl
  -- leaf 0 (ret)
  
  all_goals rfl

theorem law_rivalsK (t : Town) (q a b : List Int) (hs : M.Short t) (ok : M.Ok t) (hq : M.plan t q = true) (hBest : M.least (fun p => (M.sum (M.ranks t p), 0)) (M.plans t) = some (a, (M.sum (M.ranks t a), 0))) (ha : M.plan t a = true) (aa : M.allowed t a = true) (bB : ∀ q, M.plan t q = true → M.allowed t q = true → ¬ M.sum (M.ranks t q) < M.sum (M.ranks t a) ∧ (M.sum (M.ranks t q) = M.sum (M.ranks t a) → M.before q a = false)) (hFair : M.least (fun p => (M.most (M.ranks t p), M.sum (M.ranks t p))) (M.plans t) = some (b, (M.most (M.ranks t b), M.sum (M.ranks t b)))) (hb : M.plan t b = true) (ab : M.allowed t b = true) (bF : ∀ q, M.plan t q = true → M.allowed t q = true → M.most (M.ranks t b) ≤ M.most (M.ranks t q) ∧ (M.most (M.ranks t q) = M.most (M.ranks t b) → M.sum (M.ranks t b) ≤ M.sum (M.ranks t q) ∧ (M.sum (M.ranks t q) = M.sum (M.ranks t b) → M.before q b = false))) (aq : M.allowed t q = true) (he : (M.sum (M.ranks t q) == M.sum (M.ranks t a)) = false) (hm : M.most (M.ranks t q) = M.most (M.ranks t b)) (hz : M.sum (M.ranks t q) = M.sum (M.ranks t b))  : Ret Try.prog 8 [.agg (cT t), .sl 1 (rI q)] (.bool true) := by
  have hh : t.houses.length ≤ 1000 := by have := hs.2.2.2.2.2.1; omega
  have ea : M.err t a = 0 := by simp [M.err, ok, ha, aa]
  have ka : M.rk t a = M.ranks t a := by simp [M.rk, ea]
  have fa := M.fine_ranks ok ha aa
  have la : (M.ranks t a).length = t.houses.length := by rw [M.ranks_length]; exact (M.plan_iff.1 ha).1
  have eb : M.err t b = 0 := by simp [M.err, ok, hb, ab]
  have kb : M.rk t b = M.ranks t b := by simp [M.rk, eb]
  have fb := M.fine_ranks ok hb ab
  have lb : (M.ranks t b).length = t.houses.length := by rw [M.ranks_length]; exact (M.plan_iff.1 hb).1
  have eq : M.err t q = 0 := by simp [M.err, ok, hq, aq]
  have kq : M.rk t q = M.ranks t q := by simp [M.rk, eq]
  have fq := M.fine_ranks ok hq aq
  have lq : (M.ranks t q).length = t.houses.length := by rw [M.ranks_length]; exact (M.plan_iff.1 hq).1
  obtain ⟨q1, q2⟩ := bB q hq aq
  obtain ⟨q4, q5⟩ := bF q hq aq
  obtain ⟨q7, q8⟩ := q5 hm
  have hm1 : ¬ M.most (M.ranks t b) < M.most (M.ranks t q) := by omega
  have hz1 : ¬ M.sum (M.ranks t b) < M.sum (M.ranks t q) := by omega
  have q9 := q8 hz
  apply Ret_fin (fn := Try.f8) Try.func8 rfl
  apply T_seq
  apply T_r F
  · (simp only [go_sem, Try.ntmps8, hs, ok, hq, bne_self_eq_false, ha, hb, ea, eb, ka, kb, fa, fb, eq, kq, fq, q1, q4, he, hm1, q7, hz1, q9]) <;> exact rfl
  apply K_seq
  apply T_seq
  apply T_seq
  apply T_wL F [0, 1, 2, 3, 4, 5, 6, 7, 8, 9, 10, 11, 12, 13] rfl
  apply W_pre [0] [1, 2, 3, 4, 5, 6, 7, 8, 9, 10, 11, 12, 13]
  · (simp only [go_sem, Try.ntmps8, hs, ok, hq, bne_self_eq_false, ha, hb, ea, eb, ka, kb, fa, fb, eq, kq, fq, q1, q4, he, hm1, q7, hz1, q9]) <;> exact rfl
  apply W_call -- call 0 of function 12
  · (simp only [go_sem, Try.ntmps8, hs, ok, hq, bne_self_eq_false, ha, hb, ea, eb, ka, kb, fa, fb, eq, kq, fq, q1, q4, he, hm1, q7, hz1, q9]) <;> exact rfl
  · (simp only [go_sem, Try.ntmps8, hs, ok, hq, bne_self_eq_false, ha, hb, ea, eb, ka, kb, fa, fb, eq, kq, fq, q1, q4, he, hm1, q7, hz1, q9]) <;> exact rfl
  · exact rfl
  · (simp only [go_sem, Try.ntmps8, hs, ok, hq, bne_self_eq_false, ha, hb, ea, eb, ka, kb, fa, fb, eq, kq, fq, q1, q4, he, hm1, q7, hz1, q9]) <;> exact rfl
  · (simp only [go_sem, Try.ntmps8, hs, ok, hq, bne_self_eq_false, ha, hb, ea, eb, ka, kb, fa, fb, eq, kq, fq, q1, q4, he, hm1, q7, hz1, q9]) <;> exact rfl
  · exact ⟨_, Try.func12, rfl, rfl⟩
  · (simp only [go_sem, Try.ntmps8, hs, ok, hq, bne_self_eq_false, ha, hb, ea, eb, ka, kb, fa, fb, eq, kq, fq, q1, q4, he, hm1, q7, hz1, q9]) <;> exact rfl
  · (simp only [go_sem, Try.ntmps8, hs, ok, hq, bne_self_eq_false, ha, hb, ea, eb, ka, kb, fa, fb, eq, kq, fq, q1, q4, he, hm1, q7, hz1, q9]) <;> exact rfl
  · exact law_short _
  apply W_pre [2, 3, 4] [5, 6, 7, 8, 9, 10, 11, 12, 13]
  · (simp only [go_sem, Try.ntmps8, hs, ok, hq, bne_self_eq_false, ha, hb, ea, eb, ka, kb, fa, fb, eq, kq, fq, q1, q4, he, hm1, q7, hz1, q9]) <;> exact rfl
  apply W_call -- call 1 of function 13
  · (simp only [go_sem, Try.ntmps8, hs, ok, hq, bne_self_eq_false, ha, hb, ea, eb, ka, kb, fa, fb, eq, kq, fq, q1, q4, he, hm1, q7, hz1, q9]) <;> exact rfl
  · (simp only [go_sem, Try.ntmps8, hs, ok, hq, bne_self_eq_false, ha, hb, ea, eb, ka, kb, fa, fb, eq, kq, fq, q1, q4, he, hm1, q7, hz1, q9]) <;> exact rfl
  · exact rfl
  · (simp only [go_sem, Try.ntmps8, hs, ok, hq, bne_self_eq_false, ha, hb, ea, eb, ka, kb, fa, fb, eq, kq, fq, q1, q4, he, hm1, q7, hz1, q9]) <;> exact rfl
  · (simp only [go_sem, Try.ntmps8, hs, ok, hq, bne_self_eq_false, ha, hb, ea, eb, ka, kb, fa, fb, eq, kq, fq, q1, q4, he, hm1, q7, hz1, q9]) <;> exact rfl
  · exact ⟨_, Try.func13, rfl, rfl⟩
  · (simp only [go_sem, Try.ntmps8, hs, ok, hq, bne_self_eq_false, ha, hb, ea, eb, ka, kb, fa, fb, eq, kq, fq, q1, q4, he, hm1, q7, hz1, q9]) <;> exact rfl
  · (simp only [go_sem, Try.ntmps8, hs, ok, hq, bne_self_eq_false, ha, hb, ea, eb, ka, kb, fa, fb, eq, kq, fq, q1, q4, he, hm1, q7, hz1, q9]) <;> exact rfl
  · exact ref_town _
  apply W_pre [6, 7, 8, 9, 10] [11, 12, 13]
  · (simp only [go_sem, Try.ntmps8, hs, ok, hq, bne_self_eq_false, ha, hb, ea, eb, ka, kb, fa, fb, eq, kq, fq, q1, q4, he, hm1, q7, hz1, q9]) <;> exact rfl
  apply W_call -- call 2 of function 14
  · (simp only [go_sem, Try.ntmps8, hs, ok, hq, bne_self_eq_false, ha, hb, ea, eb, ka, kb, fa, fb, eq, kq, fq, q1, q4, he, hm1, q7, hz1, q9]) <;> exact rfl
  · (simp only [go_sem, Try.ntmps8, hs, ok, hq, bne_self_eq_false, ha, hb, ea, eb, ka, kb, fa, fb, eq, kq, fq, q1, q4, he, hm1, q7, hz1, q9]) <;> exact rfl
  · exact rfl
  · (simp only [go_sem, Try.ntmps8, hs, ok, hq, bne_self_eq_false, ha, hb, ea, eb, ka, kb, fa, fb, eq, kq, fq, q1, q4, he, hm1, q7, hz1, q9]) <;> exact rfl
  · (simp only [go_sem, Try.ntmps8, hs, ok, hq, bne_self_eq_false, ha, hb, ea, eb, ka, kb, fa, fb, eq, kq, fq, q1, q4, he, hm1, q7, hz1, q9]) <;> exact rfl
  · exact ⟨_, Try.func14, rfl, rfl⟩
  · (simp only [go_sem, Try.ntmps8, hs, ok, hq, bne_self_eq_false, ha, hb, ea, eb, ka, kb, fa, fb, eq, kq, fq, q1, q4, he, hm1, q7, hz1, q9]) <;> exact rfl
  · (simp only [go_sem, Try.ntmps8, hs, ok, hq, bne_self_eq_false, ha, hb, ea, eb, ka, kb, fa, fb, eq, kq, fq, q1, q4, he, hm1, q7, hz1, q9]) <;> exact rfl
  · exact ref_plan _ _
  apply W_run
  · (simp only [go_sem, Try.ntmps8, hs, ok, hq, bne_self_eq_false, ha, hb, ea, eb, ka, kb, fa, fb, eq, kq, fq, q1, q4, he, hm1, q7, hz1, q9]) <;> exact rfl
  apply W_nil
  apply K_seq
  apply T_ifF -- h0
  · (simp only [go_sem, Try.ntmps8, hs, ok, hq, bne_self_eq_false, ha, hb, ea, eb, ka, kb, fa, fb, eq, kq, fq, q1, q4, he, hm1, q7, hz1, q9]) <;> exact rfl
  apply T_skip
  apply K_seq
  apply T_seq
  apply T_wL F [0, 1, 2, 3, 4, 5, 6, 7, 8] rfl
  apply W_pre [0] [1, 2, 3, 4, 5, 6, 7, 8]
  · (simp only [go_sem, Try.ntmps8, hs, ok, hq, bne_self_eq_false, ha, hb, ea, eb, ka, kb, fa, fb, eq, kq, fq, q1, q4, he, hm1, q7, hz1, q9]) <;> exact rfl
  apply W_call -- call 3 of function 26
  · (simp only [go_sem, Try.ntmps8, hs, ok, hq, bne_self_eq_false, ha, hb, ea, eb, ka, kb, fa, fb, eq, kq, fq, q1, q4, he, hm1, q7, hz1, q9]) <;> exact rfl
  · (simp only [go_sem, Try.ntmps8, hs, ok, hq, bne_self_eq_false, ha, hb, ea, eb, ka, kb, fa, fb, eq, kq, fq, q1, q4, he, hm1, q7, hz1, q9]) <;> exact rfl
  · exact rfl
  · (simp only [go_sem, Try.ntmps8, hs, ok, hq, bne_self_eq_false, ha, hb, ea, eb, ka, kb, fa, fb, eq, kq, fq, q1, q4, he, hm1, q7, hz1, q9]) <;> exact rfl
  · (simp only [go_sem, Try.ntmps8, hs, ok, hq, bne_self_eq_false, ha, hb, ea, eb, ka, kb, fa, fb, eq, kq, fq, q1, q4, he, hm1, q7, hz1, q9]) <;> exact rfl
  · exact ⟨_, Try.func26, rfl, rfl⟩
  · (simp only [go_sem, Try.ntmps8, hs, ok, hq, bne_self_eq_false, ha, hb, ea, eb, ka, kb, fa, fb, eq, kq, fq, q1, q4, he, hm1, q7, hz1, q9]) <;> exact rfl
  · (simp only [go_sem, Try.ntmps8, hs, ok, hq, bne_self_eq_false, ha, hb, ea, eb, ka, kb, fa, fb, eq, kq, fq, q1, q4, he, hm1, q7, hz1, q9]) <;> exact rfl
  · exact mv_BestC t hh ok a _ hBest
  apply W_pre [2, 3, 4, 5] [6, 7, 8]
  · (simp only [go_sem, Try.ntmps8, hs, ok, hq, bne_self_eq_false, ha, hb, ea, eb, ka, kb, fa, fb, eq, kq, fq, q1, q4, he, hm1, q7, hz1, q9]) <;> exact rfl
  apply W_run
  · (simp only [go_sem, Try.ntmps8, hs, ok, hq, bne_self_eq_false, ha, hb, ea, eb, ka, kb, fa, fb, eq, kq, fq, q1, q4, he, hm1, q7, hz1, q9]) <;> exact rfl
  apply W_nil
  apply K_seq
  apply T_seq
  apply T_wL F [0, 1, 2, 3, 4, 5, 6, 7, 8] rfl
  apply W_pre [0] [1, 2, 3, 4, 5, 6, 7, 8]
  · (simp only [go_sem, Try.ntmps8, hs, ok, hq, bne_self_eq_false, ha, hb, ea, eb, ka, kb, fa, fb, eq, kq, fq, q1, q4, he, hm1, q7, hz1, q9]) <;> exact rfl
  apply W_call -- call 4 of function 27
  · (simp only [go_sem, Try.ntmps8, hs, ok, hq, bne_self_eq_false, ha, hb, ea, eb, ka, kb, fa, fb, eq, kq, fq, q1, q4, he, hm1, q7, hz1, q9]) <;> exact rfl
  · (simp only [go_sem, Try.ntmps8, hs, ok, hq, bne_self_eq_false, ha, hb, ea, eb, ka, kb, fa, fb, eq, kq, fq, q1, q4, he, hm1, q7, hz1, q9]) <;> exact rfl
  · exact rfl
  · (simp only [go_sem, Try.ntmps8, hs, ok, hq, bne_self_eq_false, ha, hb, ea, eb, ka, kb, fa, fb, eq, kq, fq, q1, q4, he, hm1, q7, hz1, q9]) <;> exact rfl
  · (simp only [go_sem, Try.ntmps8, hs, ok, hq, bne_self_eq_false, ha, hb, ea, eb, ka, kb, fa, fb, eq, kq, fq, q1, q4, he, hm1, q7, hz1, q9]) <;> exact rfl
  · exact ⟨_, Try.func27, rfl, rfl⟩
  · (simp only [go_sem, Try.ntmps8, hs, ok, hq, bne_self_eq_false, ha, hb, ea, eb, ka, kb, fa, fb, eq, kq, fq, q1, q4, he, hm1, q7, hz1, q9]) <;> exact rfl
  · (simp only [go_sem, Try.ntmps8, hs, ok, hq, bne_self_eq_false, ha, hb, ea, eb, ka, kb, fa, fb, eq, kq, fq, q1, q4, he, hm1, q7, hz1, q9]) <;> exact rfl
  · exact mv_FairestC t hh ok b _ hFair
  apply W_pre [2, 3, 4, 5] [6, 7, 8]
  · (simp only [go_sem, Try.ntmps8, hs, ok, hq, bne_self_eq_false, ha, hb, ea, eb, ka, kb, fa, fb, eq, kq, fq, q1, q4, he, hm1, q7, hz1, q9]) <;> exact rfl
  apply W_run
  · (simp only [go_sem, Try.ntmps8, hs, ok, hq, bne_self_eq_false, ha, hb, ea, eb, ka, kb, fa, fb, eq, kq, fq, q1, q4, he, hm1, q7, hz1, q9]) <;> exact rfl
  apply W_nil
  apply K_seq
  apply T_seq
  apply T_wL F [0, 1, 2, 3, 4, 5, 6, 7] rfl
  apply W_pre [0, 1] [2, 3, 4, 5, 6, 7]
  · (simp only [go_sem, Try.ntmps8, hs, ok, hq, bne_self_eq_false, ha, hb, ea, eb, ka, kb, fa, fb, eq, kq, fq, q1, q4, he, hm1, q7, hz1, q9]) <;> exact rfl
  apply W_call -- call 5 of function 34
  · (simp only [go_sem, Try.ntmps8, hs, ok, hq, bne_self_eq_false, ha, hb, ea, eb, ka, kb, fa, fb, eq, kq, fq, q1, q4, he, hm1, q7, hz1, q9]) <;> exact rfl
  · (simp only [go_sem, Try.ntmps8, hs, ok, hq, bne_self_eq_false, ha, hb, ea, eb, ka, kb, fa, fb, eq, kq, fq, q1, q4, he, hm1, q7, hz1, q9]) <;> exact rfl
  · exact rfl
  · (simp only [go_sem, Try.ntmps8, hs, ok, hq, bne_self_eq_false, ha, hb, ea, eb, ka, kb, fa, fb, eq, kq, fq, q1, q4, he, hm1, q7, hz1, q9]) <;> exact rfl
  · (simp only [go_sem, Try.ntmps8, hs, ok, hq, bne_self_eq_false, ha, hb, ea, eb, ka, kb, fa, fb, eq, kq, fq, q1, q4, he, hm1, q7, hz1, q9]) <;> exact rfl
  · exact ⟨_, Try.func34, rfl, rfl⟩
  · (simp only [go_sem, Try.ntmps8, hs, ok, hq, bne_self_eq_false, ha, hb, ea, eb, ka, kb, fa, fb, eq, kq, fq, q1, q4, he, hm1, q7, hz1, q9]) <;> exact rfl
  · (simp only [go_sem, Try.ntmps8, hs, ok, hq, bne_self_eq_false, ha, hb, ea, eb, ka, kb, fa, fb, eq, kq, fq, q1, q4, he, hm1, q7, hz1, q9]) <;> exact rfl
  · exact mv_RanksAll (by omega)
  apply W_run
  · (simp only [go_sem, Try.ntmps8, hs, ok, hq, bne_self_eq_false, ha, hb, ea, eb, ka, kb, fa, fb, eq, kq, fq, q1, q4, he, hm1, q7, hz1, q9]) <;> exact rfl
  apply W_nil
  apply K_seq
  apply T_seq
  apply T_seq
  apply T_r F
  · (simp only [go_sem, Try.ntmps8, hs, ok, hq, bne_self_eq_false, ha, hb, ea, eb, ka, kb, fa, fb, eq, kq, fq, q1, q4, he, hm1, q7, hz1, q9]) <;> exact rfl
  apply K_seq
  apply T_ifF -- h1
  · (simp only [go_sem, Try.ntmps8, hs, ok, hq, bne_self_eq_false, ha, hb, ea, eb, ka, kb, fa, fb, eq, kq, fq, q1, q4, he, hm1, q7, hz1, q9]) <;> exact rfl
  apply T_skip
  apply K_seq
  apply T_seq
  apply T_seq
  apply T_wL F [0, 1, 2, 3, 4, 5, 6, 7, 8, 9, 10, 11, 12, 13] rfl
  apply W_pre [0, 1, 2, 3, 4] [5, 6, 7, 8, 9, 10, 11, 12, 13]
  · (simp only [go_sem, Try.ntmps8, hs, ok, hq, bne_self_eq_false, ha, hb, ea, eb, ka, kb, fa, fb, eq, kq, fq, q1, q4, he, hm1, q7, hz1, q9]) <;> exact rfl
  apply W_call -- call 6 of function 14
  · (simp only [go_sem, Try.ntmps8, hs, ok, hq, bne_self_eq_false, ha, hb, ea, eb, ka, kb, fa, fb, eq, kq, fq, q1, q4, he, hm1, q7, hz1, q9]) <;> exact rfl
  · (simp only [go_sem, Try.ntmps8, hs, ok, hq, bne_self_eq_false, ha, hb, ea, eb, ka, kb, fa, fb, eq, kq, fq, q1, q4, he, hm1, q7, hz1, q9]) <;> exact rfl
  · exact rfl
  · (simp only [go_sem, Try.ntmps8, hs, ok, hq, bne_self_eq_false, ha, hb, ea, eb, ka, kb, fa, fb, eq, kq, fq, q1, q4, he, hm1, q7, hz1, q9]) <;> exact rfl
  · (simp only [go_sem, Try.ntmps8, hs, ok, hq, bne_self_eq_false, ha, hb, ea, eb, ka, kb, fa, fb, eq, kq, fq, q1, q4, he, hm1, q7, hz1, q9]) <;> exact rfl
  · exact ⟨_, Try.func14, rfl, rfl⟩
  · (simp only [go_sem, Try.ntmps8, hs, ok, hq, bne_self_eq_false, ha, hb, ea, eb, ka, kb, fa, fb, eq, kq, fq, q1, q4, he, hm1, q7, hz1, q9]) <;> exact rfl
  · (simp only [go_sem, Try.ntmps8, hs, ok, hq, bne_self_eq_false, ha, hb, ea, eb, ka, kb, fa, fb, eq, kq, fq, q1, q4, he, hm1, q7, hz1, q9]) <;> exact rfl
  · exact ref_plan _ _
  apply W_pre [6, 7, 8, 9, 10] [11, 12, 13]
  · (simp only [go_sem, Try.ntmps8, hs, ok, hq, bne_self_eq_false, ha, hb, ea, eb, ka, kb, fa, fb, eq, kq, fq, q1, q4, he, hm1, q7, hz1, q9]) <;> exact rfl
  apply W_call -- call 7 of function 14
  · (simp only [go_sem, Try.ntmps8, hs, ok, hq, bne_self_eq_false, ha, hb, ea, eb, ka, kb, fa, fb, eq, kq, fq, q1, q4, he, hm1, q7, hz1, q9]) <;> exact rfl
  · (simp only [go_sem, Try.ntmps8, hs, ok, hq, bne_self_eq_false, ha, hb, ea, eb, ka, kb, fa, fb, eq, kq, fq, q1, q4, he, hm1, q7, hz1, q9]) <;> exact rfl
  · exact rfl
  · (simp only [go_sem, Try.ntmps8, hs, ok, hq, bne_self_eq_false, ha, hb, ea, eb, ka, kb, fa, fb, eq, kq, fq, q1, q4, he, hm1, q7, hz1, q9]) <;> exact rfl
  · (simp only [go_sem, Try.ntmps8, hs, ok, hq, bne_self_eq_false, ha, hb, ea, eb, ka, kb, fa, fb, eq, kq, fq, q1, q4, he, hm1, q7, hz1, q9]) <;> exact rfl
  · exact ⟨_, Try.func14, rfl, rfl⟩
  · (simp only [go_sem, Try.ntmps8, hs, ok, hq, bne_self_eq_false, ha, hb, ea, eb, ka, kb, fa, fb, eq, kq, fq, q1, q4, he, hm1, q7, hz1, q9]) <;> exact rfl
  · (simp only [go_sem, Try.ntmps8, hs, ok, hq, bne_self_eq_false, ha, hb, ea, eb, ka, kb, fa, fb, eq, kq, fq, q1, q4, he, hm1, q7, hz1, q9]) <;> exact rfl
  · exact ref_plan _ _
  apply W_run
  · (simp only [go_sem, Try.ntmps8, hs, ok, hq, bne_self_eq_false, ha, hb, ea, eb, ka, kb, fa, fb, eq, kq, fq, q1, q4, he, hm1, q7, hz1, q9]) <;> exact rfl
  apply W_nil
  apply K_seq
  apply T_ifF -- h2
  · (simp only [go_sem, Try.ntmps8, hs, ok, hq, bne_self_eq_false, ha, hb, ea, eb, ka, kb, fa, fb, eq, kq, fq, q1, q4, he, hm1, q7, hz1, q9]) <;> exact rfl
  apply T_skip
  apply K_seq
  apply T_seq
  apply T_wL F [0, 1, 2, 3, 4, 5, 6, 7] rfl
  apply W_pre [0, 1] [2, 3, 4, 5, 6, 7]
  · (simp only [go_sem, Try.ntmps8, hs, ok, hq, bne_self_eq_false, ha, hb, ea, eb, ka, kb, fa, fb, eq, kq, fq, q1, q4, he, hm1, q7, hz1, q9]) <;> exact rfl
  apply W_call -- call 8 of function 34
  · (simp only [go_sem, Try.ntmps8, hs, ok, hq, bne_self_eq_false, ha, hb, ea, eb, ka, kb, fa, fb, eq, kq, fq, q1, q4, he, hm1, q7, hz1, q9]) <;> exact rfl
  · (simp only [go_sem, Try.ntmps8, hs, ok, hq, bne_self_eq_false, ha, hb, ea, eb, ka, kb, fa, fb, eq, kq, fq, q1, q4, he, hm1, q7, hz1, q9]) <;> exact rfl
  · exact rfl
  · (simp only [go_sem, Try.ntmps8, hs, ok, hq, bne_self_eq_false, ha, hb, ea, eb, ka, kb, fa, fb, eq, kq, fq, q1, q4, he, hm1, q7, hz1, q9]) <;> exact rfl
  · (simp only [go_sem, Try.ntmps8, hs, ok, hq, bne_self_eq_false, ha, hb, ea, eb, ka, kb, fa, fb, eq, kq, fq, q1, q4, he, hm1, q7, hz1, q9]) <;> exact rfl
  · exact ⟨_, Try.func34, rfl, rfl⟩
  · (simp only [go_sem, Try.ntmps8, hs, ok, hq, bne_self_eq_false, ha, hb, ea, eb, ka, kb, fa, fb, eq, kq, fq, q1, q4, he, hm1, q7, hz1, q9]) <;> exact rfl
  · (simp only [go_sem, Try.ntmps8, hs, ok, hq, bne_self_eq_false, ha, hb, ea, eb, ka, kb, fa, fb, eq, kq, fq, q1, q4, he, hm1, q7, hz1, q9]) <;> exact rfl
  · exact mv_RanksAll (by omega)
  apply W_run
  · (simp only [go_sem, Try.ntmps8, hs, ok, hq, bne_self_eq_false, ha, hb, ea, eb, ka, kb, fa, fb, eq, kq, fq, q1, q4, he, hm1, q7, hz1, q9]) <;> exact rfl
  apply W_nil
  apply K_seq
  apply T_seq
  apply T_wL F [0, 1, 2, 3, 4, 5, 6, 7] rfl
  apply W_pre [0, 1] [2, 3, 4, 5, 6, 7]
  · (simp only [go_sem, Try.ntmps8, hs, ok, hq, bne_self_eq_false, ha, hb, ea, eb, ka, kb, fa, fb, eq, kq, fq, q1, q4, he, hm1, q7, hz1, q9]) <;> exact rfl
  apply W_call -- call 9 of function 34
  · (simp only [go_sem, Try.ntmps8, hs, ok, hq, bne_self_eq_false, ha, hb, ea, eb, ka, kb, fa, fb, eq, kq, fq, q1, q4, he, hm1, q7, hz1, q9]) <;> exact rfl
  · (simp only [go_sem, Try.ntmps8, hs, ok, hq, bne_self_eq_false, ha, hb, ea, eb, ka, kb, fa, fb, eq, kq, fq, q1, q4, he, hm1, q7, hz1, q9]) <;> exact rfl
  · exact rfl
  · (simp only [go_sem, Try.ntmps8, hs, ok, hq, bne_self_eq_false, ha, hb, ea, eb, ka, kb, fa, fb, eq, kq, fq, q1, q4, he, hm1, q7, hz1, q9]) <;> exact rfl
  · (simp only [go_sem, Try.ntmps8, hs, ok, hq, bne_self_eq_false, ha, hb, ea, eb, ka, kb, fa, fb, eq, kq, fq, q1, q4, he, hm1, q7, hz1, q9]) <;> exact rfl
  · exact ⟨_, Try.func34, rfl, rfl⟩
  · (simp only [go_sem, Try.ntmps8, hs, ok, hq, bne_self_eq_false, ha, hb, ea, eb, ka, kb, fa, fb, eq, kq, fq, q1, q4, he, hm1, q7, hz1, q9]) <;> exact rfl
  · (simp only [go_sem, Try.ntmps8, hs, ok, hq, bne_self_eq_false, ha, hb, ea, eb, ka, kb, fa, fb, eq, kq, fq, q1, q4, he, hm1, q7, hz1, q9]) <;> exact rfl
  · exact mv_RanksAll (by omega)
  apply W_run
  · (simp only [go_sem, Try.ntmps8, hs, ok, hq, bne_self_eq_false, ha, hb, ea, eb, ka, kb, fa, fb, eq, kq, fq, q1, q4, he, hm1, q7, hz1, q9]) <;> exact rfl
  apply W_nil
  apply K_seq
  apply T_seq
  apply T_seq
  apply T_wL F [0, 1, 2, 3, 4, 5, 6, 7, 8, 9, 10, 11, 12, 13, 14, 15, 16, 17, 18, 19, 20, 21, 22, 23, 24, 25, 26, 27, 28, 29] rfl
  apply W_pre [0, 1, 2, 3] [4, 5, 6, 7, 8, 9, 10, 11, 12, 13, 14, 15, 16, 17, 18, 19, 20, 21, 22, 23, 24, 25, 26, 27, 28, 29]
  · (simp only [go_sem, Try.ntmps8, hs, ok, hq, bne_self_eq_false, ha, hb, ea, eb, ka, kb, fa, fb, eq, kq, fq, q1, q4, he, hm1, q7, hz1, q9]) <;> exact rfl
  apply W_pre [4, 5, 6, 7, 8] [9, 10, 11, 12, 13, 14, 15, 16, 17, 18, 19, 20, 21, 22, 23, 24, 25, 26, 27, 28, 29]
  · (simp only [go_sem, Try.ntmps8, hs, ok, hq, bne_self_eq_false, ha, hb, ea, eb, ka, kb, fa, fb, eq, kq, fq, q1, q4, he, hm1, q7, hz1, q9]) <;> exact rfl
  apply W_call -- call 10 of function 35
  · (simp only [go_sem, Try.ntmps8, hs, ok, hq, bne_self_eq_false, ha, hb, ea, eb, ka, kb, fa, fb, eq, kq, fq, q1, q4, he, hm1, q7, hz1, q9]) <;> exact rfl
  · (simp only [go_sem, Try.ntmps8, hs, ok, hq, bne_self_eq_false, ha, hb, ea, eb, ka, kb, fa, fb, eq, kq, fq, q1, q4, he, hm1, q7, hz1, q9]) <;> exact rfl
  · exact rfl
  · (simp only [go_sem, Try.ntmps8, hs, ok, hq, bne_self_eq_false, ha, hb, ea, eb, ka, kb, fa, fb, eq, kq, fq, q1, q4, he, hm1, q7, hz1, q9]) <;> exact rfl
  · (simp only [go_sem, Try.ntmps8, hs, ok, hq, bne_self_eq_false, ha, hb, ea, eb, ka, kb, fa, fb, eq, kq, fq, q1, q4, he, hm1, q7, hz1, q9]) <;> exact rfl
  · exact ⟨_, Try.func35, rfl, rfl⟩
  · (simp only [go_sem, Try.ntmps8, hs, ok, hq, bne_self_eq_false, ha, hb, ea, eb, ka, kb, fa, fb, eq, kq, fq, q1, q4, he, hm1, q7, hz1, q9]) <;> exact rfl
  · (simp only [go_sem, Try.ntmps8, hs, ok, hq, bne_self_eq_false, ha, hb, ea, eb, ka, kb, fa, fb, eq, kq, fq, q1, q4, he, hm1, q7, hz1, q9]) <;> exact rfl
  · exact law_fine _ _
  apply W_pre [10, 11, 12, 13, 14] [15, 16, 17, 18, 19, 20, 21, 22, 23, 24, 25, 26, 27, 28, 29]
  · (simp only [go_sem, Try.ntmps8, hs, ok, hq, bne_self_eq_false, ha, hb, ea, eb, ka, kb, fa, fb, eq, kq, fq, q1, q4, he, hm1, q7, hz1, q9]) <;> exact rfl
  apply W_call -- call 11 of function 35
  · (simp only [go_sem, Try.ntmps8, hs, ok, hq, bne_self_eq_false, ha, hb, ea, eb, ka, kb, fa, fb, eq, kq, fq, q1, q4, he, hm1, q7, hz1, q9]) <;> exact rfl
  · (simp only [go_sem, Try.ntmps8, hs, ok, hq, bne_self_eq_false, ha, hb, ea, eb, ka, kb, fa, fb, eq, kq, fq, q1, q4, he, hm1, q7, hz1, q9]) <;> exact rfl
  · exact rfl
  · (simp only [go_sem, Try.ntmps8, hs, ok, hq, bne_self_eq_false, ha, hb, ea, eb, ka, kb, fa, fb, eq, kq, fq, q1, q4, he, hm1, q7, hz1, q9]) <;> exact rfl
  · (simp only [go_sem, Try.ntmps8, hs, ok, hq, bne_self_eq_false, ha, hb, ea, eb, ka, kb, fa, fb, eq, kq, fq, q1, q4, he, hm1, q7, hz1, q9]) <;> exact rfl
  · exact ⟨_, Try.func35, rfl, rfl⟩
  · (simp only [go_sem, Try.ntmps8, hs, ok, hq, bne_self_eq_false, ha, hb, ea, eb, ka, kb, fa, fb, eq, kq, fq, q1, q4, he, hm1, q7, hz1, q9]) <;> exact rfl
  · (simp only [go_sem, Try.ntmps8, hs, ok, hq, bne_self_eq_false, ha, hb, ea, eb, ka, kb, fa, fb, eq, kq, fq, q1, q4, he, hm1, q7, hz1, q9]) <;> exact rfl
  · exact law_fine _ _
  apply W_pre [16, 17, 18, 19] [20, 21, 22, 23, 24, 25, 26, 27, 28, 29]
  · (simp only [go_sem, Try.ntmps8, hs, ok, hq, bne_self_eq_false, ha, hb, ea, eb, ka, kb, fa, fb, eq, kq, fq, q1, q4, he, hm1, q7, hz1, q9]) <;> exact rfl
  apply W_call -- call 12 of function 30
  · (simp only [go_sem, Try.ntmps8, hs, ok, hq, bne_self_eq_false, ha, hb, ea, eb, ka, kb, fa, fb, eq, kq, fq, q1, q4, he, hm1, q7, hz1, q9]) <;> exact rfl
  · (simp only [go_sem, Try.ntmps8, hs, ok, hq, bne_self_eq_false, ha, hb, ea, eb, ka, kb, fa, fb, eq, kq, fq, q1, q4, he, hm1, q7, hz1, q9]) <;> exact rfl
  · exact rfl
  · (simp only [go_sem, Try.ntmps8, hs, ok, hq, bne_self_eq_false, ha, hb, ea, eb, ka, kb, fa, fb, eq, kq, fq, q1, q4, he, hm1, q7, hz1, q9]) <;> exact rfl
  · (simp only [go_sem, Try.ntmps8, hs, ok, hq, bne_self_eq_false, ha, hb, ea, eb, ka, kb, fa, fb, eq, kq, fq, q1, q4, he, hm1, q7, hz1, q9]) <;> exact rfl
  · exact ⟨_, Try.func30, rfl, rfl⟩
  · (simp only [go_sem, Try.ntmps8, hs, ok, hq, bne_self_eq_false, ha, hb, ea, eb, ka, kb, fa, fb, eq, kq, fq, q1, q4, he, hm1, q7, hz1, q9]) <;> exact rfl
  · (simp only [go_sem, Try.ntmps8, hs, ok, hq, bne_self_eq_false, ha, hb, ea, eb, ka, kb, fa, fb, eq, kq, fq, q1, q4, he, hm1, q7, hz1, q9]) <;> exact rfl
  · exact ref_sum _ (M.ranks_wide ok) (by omega)
  apply W_pre [21, 22, 23, 24, 25] [26, 27, 28, 29]
  · (simp only [go_sem, Try.ntmps8, hs, ok, hq, bne_self_eq_false, ha, hb, ea, eb, ka, kb, fa, fb, eq, kq, fq, q1, q4, he, hm1, q7, hz1, q9]) <;> exact rfl
  apply W_call -- call 13 of function 32
  · (simp only [go_sem, Try.ntmps8, hs, ok, hq, bne_self_eq_false, ha, hb, ea, eb, ka, kb, fa, fb, eq, kq, fq, q1, q4, he, hm1, q7, hz1, q9]) <;> exact rfl
  · (simp only [go_sem, Try.ntmps8, hs, ok, hq, bne_self_eq_false, ha, hb, ea, eb, ka, kb, fa, fb, eq, kq, fq, q1, q4, he, hm1, q7, hz1, q9]) <;> exact rfl
  · exact rfl
  · (simp only [go_sem, Try.ntmps8, hs, ok, hq, bne_self_eq_false, ha, hb, ea, eb, ka, kb, fa, fb, eq, kq, fq, q1, q4, he, hm1, q7, hz1, q9]) <;> exact rfl
  · (simp only [go_sem, Try.ntmps8, hs, ok, hq, bne_self_eq_false, ha, hb, ea, eb, ka, kb, fa, fb, eq, kq, fq, q1, q4, he, hm1, q7, hz1, q9]) <;> exact rfl
  · exact ⟨_, Try.func32, rfl, rfl⟩
  · (simp only [go_sem, Try.ntmps8, hs, ok, hq, bne_self_eq_false, ha, hb, ea, eb, ka, kb, fa, fb, eq, kq, fq, q1, q4, he, hm1, q7, hz1, q9]) <;> exact rfl
  · (simp only [go_sem, Try.ntmps8, hs, ok, hq, bne_self_eq_false, ha, hb, ea, eb, ka, kb, fa, fb, eq, kq, fq, q1, q4, he, hm1, q7, hz1, q9]) <;> exact rfl
  · exact ref_most _
  apply W_run
  · (simp only [go_sem, Try.ntmps8, hs, ok, hq, bne_self_eq_false, ha, hb, ea, eb, ka, kb, fa, fb, eq, kq, fq, q1, q4, he, hm1, q7, hz1, q9]) <;> exact rfl
  apply W_nil
  apply K_seq
  apply T_ifF -- h3
  · (simp only [go_sem, Try.ntmps8, hs, ok, hq, bne_self_eq_false, ha, hb, ea, eb, ka, kb, fa, fb, eq, kq, fq, q1, q4, he, hm1, q7, hz1, q9]) <;> exact rfl
  apply T_skip
  apply K_seq
  apply T_seq
  apply T_seq
  apply T_r F
  · (simp only [go_sem, Try.ntmps8, hs, ok, hq, bne_self_eq_false, ha, hb, ea, eb, ka, kb, fa, fb, eq, kq, fq, q1, q4, he, hm1, q7, hz1, q9]) <;> exact rfl
  apply K_seq
  apply T_ifF -- h4
  · (simp only [go_sem, Try.ntmps8, hs, ok, hq, bne_self_eq_false, ha, hb, ea, eb, ka, kb, fa, fb, eq, kq, fq, q1, q4, he, hm1, q7, hz1, q9]) <;> exact rfl
  apply T_skip
  apply K_seq
  apply T_seq
  apply T_seq
  apply T_wL F [0, 1, 2, 3] rfl
  apply W_pre [0, 1] [2, 3]
  · (simp only [go_sem, Try.ntmps8, hs, ok, hq, bne_self_eq_false, ha, hb, ea, eb, ka, kb, fa, fb, eq, kq, fq, q1, q4, he, hm1, q7, hz1, q9]) <;> exact rfl
  apply W_call -- call 14 of function 35
  · (simp only [go_sem, Try.ntmps8, hs, ok, hq, bne_self_eq_false, ha, hb, ea, eb, ka, kb, fa, fb, eq, kq, fq, q1, q4, he, hm1, q7, hz1, q9]) <;> exact rfl
  · (simp only [go_sem, Try.ntmps8, hs, ok, hq, bne_self_eq_false, ha, hb, ea, eb, ka, kb, fa, fb, eq, kq, fq, q1, q4, he, hm1, q7, hz1, q9]) <;> exact rfl
  · exact rfl
  · (simp only [go_sem, Try.ntmps8, hs, ok, hq, bne_self_eq_false, ha, hb, ea, eb, ka, kb, fa, fb, eq, kq, fq, q1, q4, he, hm1, q7, hz1, q9]) <;> exact rfl
  · (simp only [go_sem, Try.ntmps8, hs, ok, hq, bne_self_eq_false, ha, hb, ea, eb, ka, kb, fa, fb, eq, kq, fq, q1, q4, he, hm1, q7, hz1, q9]) <;> exact rfl
  · exact ⟨_, Try.func35, rfl, rfl⟩
  · (simp only [go_sem, Try.ntmps8, hs, ok, hq, bne_self_eq_false, ha, hb, ea, eb, ka, kb, fa, fb, eq, kq, fq, q1, q4, he, hm1, q7, hz1, q9]) <;> exact rfl
  · (simp only [go_sem, Try.ntmps8, hs, ok, hq, bne_self_eq_false, ha, hb, ea, eb, ka, kb, fa, fb, eq, kq, fq, q1, q4, he, hm1, q7, hz1, q9]) <;> exact rfl
  · exact law_fine _ _
  apply W_run
  · (simp only [go_sem, Try.ntmps8, hs, ok, hq, bne_self_eq_false, ha, hb, ea, eb, ka, kb, fa, fb, eq, kq, fq, q1, q4, he, hm1, q7, hz1, q9]) <;> exact rfl
  apply W_nil
  apply K_seq
  apply T_ifF -- h5
  · (simp only [go_sem, Try.ntmps8, hs, ok, hq, bne_self_eq_false, ha, hb, ea, eb, ka, kb, fa, fb, eq, kq, fq, q1, q4, he, hm1, q7, hz1, q9]) <;> exact rfl
  apply T_skip
  apply K_seq
  apply T_seq
  apply T_wL F [0, 1, 2, 3, 4, 5] rfl
  apply W_pre [0] [1, 2, 3, 4, 5]
  · (simp only [go_sem, Try.ntmps8, hs, ok, hq, bne_self_eq_false, ha, hb, ea, eb, ka, kb, fa, fb, eq, kq, fq, q1, q4, he, hm1, q7, hz1, q9]) <;> exact rfl
  apply W_call -- call 15 of function 30
  · (simp only [go_sem, Try.ntmps8, hs, ok, hq, bne_self_eq_false, ha, hb, ea, eb, ka, kb, fa, fb, eq, kq, fq, q1, q4, he, hm1, q7, hz1, q9]) <;> exact rfl
  · (simp only [go_sem, Try.ntmps8, hs, ok, hq, bne_self_eq_false, ha, hb, ea, eb, ka, kb, fa, fb, eq, kq, fq, q1, q4, he, hm1, q7, hz1, q9]) <;> exact rfl
  · exact rfl
  · (simp only [go_sem, Try.ntmps8, hs, ok, hq, bne_self_eq_false, ha, hb, ea, eb, ka, kb, fa, fb, eq, kq, fq, q1, q4, he, hm1, q7, hz1, q9]) <;> exact rfl
  · (simp only [go_sem, Try.ntmps8, hs, ok, hq, bne_self_eq_false, ha, hb, ea, eb, ka, kb, fa, fb, eq, kq, fq, q1, q4, he, hm1, q7, hz1, q9]) <;> exact rfl
  · exact ⟨_, Try.func30, rfl, rfl⟩
  · (simp only [go_sem, Try.ntmps8, hs, ok, hq, bne_self_eq_false, ha, hb, ea, eb, ka, kb, fa, fb, eq, kq, fq, q1, q4, he, hm1, q7, hz1, q9]) <;> exact rfl
  · (simp only [go_sem, Try.ntmps8, hs, ok, hq, bne_self_eq_false, ha, hb, ea, eb, ka, kb, fa, fb, eq, kq, fq, q1, q4, he, hm1, q7, hz1, q9]) <;> exact rfl
  · exact ref_sum _ (M.ranks_wide ok) (by omega)
  apply W_pre [2] [3, 4, 5]
  · (simp only [go_sem, Try.ntmps8, hs, ok, hq, bne_self_eq_false, ha, hb, ea, eb, ka, kb, fa, fb, eq, kq, fq, q1, q4, he, hm1, q7, hz1, q9]) <;> exact rfl
  apply W_call -- call 16 of function 32
  · (simp only [go_sem, Try.ntmps8, hs, ok, hq, bne_self_eq_false, ha, hb, ea, eb, ka, kb, fa, fb, eq, kq, fq, q1, q4, he, hm1, q7, hz1, q9]) <;> exact rfl
  · (simp only [go_sem, Try.ntmps8, hs, ok, hq, bne_self_eq_false, ha, hb, ea, eb, ka, kb, fa, fb, eq, kq, fq, q1, q4, he, hm1, q7, hz1, q9]) <;> exact rfl
  · exact rfl
  · (simp only [go_sem, Try.ntmps8, hs, ok, hq, bne_self_eq_false, ha, hb, ea, eb, ka, kb, fa, fb, eq, kq, fq, q1, q4, he, hm1, q7, hz1, q9]) <;> exact rfl
  · (simp only [go_sem, Try.ntmps8, hs, ok, hq, bne_self_eq_false, ha, hb, ea, eb, ka, kb, fa, fb, eq, kq, fq, q1, q4, he, hm1, q7, hz1, q9]) <;> exact rfl
  · exact ⟨_, Try.func32, rfl, rfl⟩
  · (simp only [go_sem, Try.ntmps8, hs, ok, hq, bne_self_eq_false, ha, hb, ea, eb, ka, kb, fa, fb, eq, kq, fq, q1, q4, he, hm1, q7, hz1, q9]) <;> exact rfl
  · (simp only [go_sem, Try.ntmps8, hs, ok, hq, bne_self_eq_false, ha, hb, ea, eb, ka, kb, fa, fb, eq, kq, fq, q1, q4, he, hm1, q7, hz1, q9]) <;> exact rfl
  · exact ref_most _
  apply W_run
  · (simp only [go_sem, Try.ntmps8, hs, ok, hq, bne_self_eq_false, ha, hb, ea, eb, ka, kb, fa, fb, eq, kq, fq, q1, q4, he, hm1, q7, hz1, q9]) <;> exact rfl
  apply W_nil
  apply K_seq
  apply T_seq
  apply T_seq
  apply T_wL F [0, 1, 2, 3, 4, 5, 6, 7, 8, 9, 10, 11, 12] rfl
  apply W_pre [0, 1, 2, 3] [4, 5, 6, 7, 8, 9, 10, 11, 12]
  · (simp only [go_sem, Try.ntmps8, hs, ok, hq, bne_self_eq_false, ha, hb, ea, eb, ka, kb, fa, fb, eq, kq, fq, q1, q4, he, hm1, q7, hz1, q9]) <;> exact rfl
  apply W_pre [4, 5, 6, 7] [8, 9, 10, 11, 12]
  · (simp only [go_sem, Try.ntmps8, hs, ok, hq, bne_self_eq_false, ha, hb, ea, eb, ka, kb, fa, fb, eq, kq, fq, q1, q4, he, hm1, q7, hz1, q9]) <;> exact rfl
  apply W_run
  · (simp only [go_sem, Try.ntmps8, hs, ok, hq, bne_self_eq_false, ha, hb, ea, eb, ka, kb, fa, fb, eq, kq, fq, q1, q4, he, hm1, q7, hz1, q9]) <;> exact rfl
  apply W_nil
  apply K_seq
  apply T_ifF -- h6
  · (simp only [go_sem, Try.ntmps8, hs, ok, hq, bne_self_eq_false, ha, hb, ea, eb, ka, kb, fa, fb, eq, kq, fq, q1, q4, he, hm1, q7, hz1, q9]) <;> exact rfl
  apply T_skip
  apply K_seq
  apply T_seq
  apply T_wL F [0, 1, 2, 3, 4, 5, 6, 7, 8, 9, 10, 11, 12, 13, 14, 15, 16, 17, 18, 19, 20, 21, 22, 23, 24, 25, 26, 27, 28, 29, 30, 31, 32, 33, 34] rfl
  apply W_pre [0, 1, 2, 3] [4, 5, 6, 7, 8, 9, 10, 11, 12, 13, 14, 15, 16, 17, 18, 19, 20, 21, 22, 23, 24, 25, 26, 27, 28, 29, 30, 31, 32, 33, 34]
  · (simp only [go_sem, Try.ntmps8, hs, ok, hq, bne_self_eq_false, ha, hb, ea, eb, ka, kb, fa, fb, eq, kq, fq, q1, q4, he, hm1, q7, hz1, q9]) <;> exact rfl
  apply W_pre [4, 5, 6, 7, 8, 9] [10, 11, 12, 13, 14, 15, 16, 17, 18, 19, 20, 21, 22, 23, 24, 25, 26, 27, 28, 29, 30, 31, 32, 33, 34]
  · (simp only [go_sem, Try.ntmps8, hs, ok, hq, bne_self_eq_false, ha, hb, ea, eb, ka, kb, fa, fb, eq, kq, fq, q1, q4, he, hm1, q7, hz1, q9]) <;> exact rfl
  apply W_call -- call 17 of function 30
  · (simp only [go_sem, Try.ntmps8, hs, ok, hq, bne_self_eq_false, ha, hb, ea, eb, ka, kb, fa, fb, eq, kq, fq, q1, q4, he, hm1, q7, hz1, q9]) <;> exact rfl
  · (simp only [go_sem, Try.ntmps8, hs, ok, hq, bne_self_eq_false, ha, hb, ea, eb, ka, kb, fa, fb, eq, kq, fq, q1, q4, he, hm1, q7, hz1, q9]) <;> exact rfl
  · exact rfl
  · (simp only [go_sem, Try.ntmps8, hs, ok, hq, bne_self_eq_false, ha, hb, ea, eb, ka, kb, fa, fb, eq, kq, fq, q1, q4, he, hm1, q7, hz1, q9]) <;> exact rfl
  · (simp only [go_sem, Try.ntmps8, hs, ok, hq, bne_self_eq_false, ha, hb, ea, eb, ka, kb, fa, fb, eq, kq, fq, q1, q4, he, hm1, q7, hz1, q9]) <;> exact rfl
  · exact ⟨_, Try.func30, rfl, rfl⟩
  · (simp only [go_sem, Try.ntmps8, hs, ok, hq, bne_self_eq_false, ha, hb, ea, eb, ka, kb, fa, fb, eq, kq, fq, q1, q4, he, hm1, q7, hz1, q9]) <;> exact rfl
  · (simp only [go_sem, Try.ntmps8, hs, ok, hq, bne_self_eq_false, ha, hb, ea, eb, ka, kb, fa, fb, eq, kq, fq, q1, q4, he, hm1, q7, hz1, q9]) <;> exact rfl
  · exact ref_sum _ (M.ranks_wide ok) (by omega)
  apply W_pre [11, 12, 13, 14] [15, 16, 17, 18, 19, 20, 21, 22, 23, 24, 25, 26, 27, 28, 29, 30, 31, 32, 33, 34]
  · (simp only [go_sem, Try.ntmps8, hs, ok, hq, bne_self_eq_false, ha, hb, ea, eb, ka, kb, fa, fb, eq, kq, fq, q1, q4, he, hm1, q7, hz1, q9]) <;> exact rfl
  apply W_pre [15, 16, 17, 18, 19, 20] [21, 22, 23, 24, 25, 26, 27, 28, 29, 30, 31, 32, 33, 34]
  · (simp only [go_sem, Try.ntmps8, hs, ok, hq, bne_self_eq_false, ha, hb, ea, eb, ka, kb, fa, fb, eq, kq, fq, q1, q4, he, hm1, q7, hz1, q9]) <;> exact rfl
  apply W_call -- call 18 of function 30
  · (simp only [go_sem, Try.ntmps8, hs, ok, hq, bne_self_eq_false, ha, hb, ea, eb, ka, kb, fa, fb, eq, kq, fq, q1, q4, he, hm1, q7, hz1, q9]) <;> exact rfl
  · (simp only [go_sem, Try.ntmps8, hs, ok, hq, bne_self_eq_false, ha, hb, ea, eb, ka, kb, fa, fb, eq, kq, fq, q1, q4, he, hm1, q7, hz1, q9]) <;> exact rfl
  · exact rfl
  · (simp only [go_sem, Try.ntmps8, hs, ok, hq, bne_self_eq_false, ha, hb, ea, eb, ka, kb, fa, fb, eq, kq, fq, q1, q4, he, hm1, q7, hz1, q9]) <;> exact rfl
  · (simp only [go_sem, Try.ntmps8, hs, ok, hq, bne_self_eq_false, ha, hb, ea, eb, ka, kb, fa, fb, eq, kq, fq, q1, q4, he, hm1, q7, hz1, q9]) <;> exact rfl
  · exact ⟨_, Try.func30, rfl, rfl⟩
  · (simp only [go_sem, Try.ntmps8, hs, ok, hq, bne_self_eq_false, ha, hb, ea, eb, ka, kb, fa, fb, eq, kq, fq, q1, q4, he, hm1, q7, hz1, q9]) <;> exact rfl
  · (simp only [go_sem, Try.ntmps8, hs, ok, hq, bne_self_eq_false, ha, hb, ea, eb, ka, kb, fa, fb, eq, kq, fq, q1, q4, he, hm1, q7, hz1, q9]) <;> exact rfl
  · exact ref_sum _ (M.ranks_wide ok) (by omega)
  apply W_pre [22, 23, 24, 25, 26] [27, 28, 29, 30, 31, 32, 33, 34]
  · (simp only [go_sem, Try.ntmps8, hs, ok, hq, bne_self_eq_false, ha, hb, ea, eb, ka, kb, fa, fb, eq, kq, fq, q1, q4, he, hm1, q7, hz1, q9]) <;> exact rfl
  apply W_call -- call 19 of function 25
  · (simp only [go_sem, Try.ntmps8, hs, ok, hq, bne_self_eq_false, ha, hb, ea, eb, ka, kb, fa, fb, eq, kq, fq, q1, q4, he, hm1, q7, hz1, q9]) <;> exact rfl
  · (simp only [go_sem, Try.ntmps8, hs, ok, hq, bne_self_eq_false, ha, hb, ea, eb, ka, kb, fa, fb, eq, kq, fq, q1, q4, he, hm1, q7, hz1, q9]) <;> exact rfl
  · exact rfl
  · (simp only [go_sem, Try.ntmps8, hs, ok, hq, bne_self_eq_false, ha, hb, ea, eb, ka, kb, fa, fb, eq, kq, fq, q1, q4, he, hm1, q7, hz1, q9]) <;> exact rfl
  · (simp only [go_sem, Try.ntmps8, hs, ok, hq, bne_self_eq_false, ha, hb, ea, eb, ka, kb, fa, fb, eq, kq, fq, q1, q4, he, hm1, q7, hz1, q9]) <;> exact rfl
  · exact ⟨_, Try.func25, rfl, rfl⟩
  · (simp only [go_sem, Try.ntmps8, hs, ok, hq, bne_self_eq_false, ha, hb, ea, eb, ka, kb, fa, fb, eq, kq, fq, q1, q4, he, hm1, q7, hz1, q9]) <;> exact rfl
  · (simp only [go_sem, Try.ntmps8, hs, ok, hq, bne_self_eq_false, ha, hb, ea, eb, ka, kb, fa, fb, eq, kq, fq, q1, q4, he, hm1, q7, hz1, q9]) <;> exact rfl
  · exact ref_before _ _
  apply W_pre [28, 29, 30, 31] [32, 33, 34]
  · (simp only [go_sem, Try.ntmps8, hs, ok, hq, bne_self_eq_false, ha, hb, ea, eb, ka, kb, fa, fb, eq, kq, fq, q1, q4, he, hm1, q7, hz1, q9]) <;> exact rfl
  apply W_call -- call 20 of function 16
  · (simp only [go_sem, Try.ntmps8, hs, ok, hq, bne_self_eq_false, ha, hb, ea, eb, ka, kb, fa, fb, eq, kq, fq, q1, q4, he, hm1, q7, hz1, q9]) <;> exact rfl
  · (simp only [go_sem, Try.ntmps8, hs, ok, hq, bne_self_eq_false, ha, hb, ea, eb, ka, kb, fa, fb, eq, kq, fq, q1, q4, he, hm1, q7, hz1, q9]) <;> exact rfl
  · exact rfl
  · (simp only [go_sem, Try.ntmps8, hs, ok, hq, bne_self_eq_false, ha, hb, ea, eb, ka, kb, fa, fb, eq, kq, fq, q1, q4, he, hm1, q7, hz1, q9]) <;> exact rfl
  · (simp only [go_sem, Try.ntmps8, hs, ok, hq, bne_self_eq_false, ha, hb, ea, eb, ka, kb, fa, fb, eq, kq, fq, q1, q4, he, hm1, q7, hz1, q9]) <;> exact rfl
  · exact ⟨_, Try.func16, rfl, rfl⟩
  · (simp only [go_sem, Try.ntmps8, hs, ok, hq, bne_self_eq_false, ha, hb, ea, eb, ka, kb, fa, fb, eq, kq, fq, q1, q4, he, hm1, q7, hz1, q9]) <;> exact rfl
  · (simp only [go_sem, Try.ntmps8, hs, ok, hq, bne_self_eq_false, ha, hb, ea, eb, ka, kb, fa, fb, eq, kq, fq, q1, q4, he, hm1, q7, hz1, q9]) <;> exact rfl
  · exact known_ok
  apply W_run
  · (simp only [go_sem, Try.ntmps8, hs, ok, hq, bne_self_eq_false, ha, hb, ea, eb, ka, kb, fa, fb, eq, kq, fq, q1, q4, he, hm1, q7, hz1, q9]) <;> exact rfl
  apply W_nil
  apply K_seq
  apply T_ret
  apply fin_ret
  · (simp only [go_sem, Try.ntmps8, hs, ok, hq, bne_self_eq_false, ha, hb, ea, eb, ka, kb, fa, fb, eq, kq, fq, q1, q4, he, hm1, q7, hz1, q9, Try.f8]) <;> exact rfl
  -- leaf 0 (ret)
  
  all_goals rfl


theorem law_rivals (t : Town) (q : List Int) : Ret Try.prog 8 [.agg (cT t), .sl 1 (rI q)] (.bool true) := by
  by_cases hs : M.Short t
  · by_cases ok : M.Ok t
    · cases hq : M.plan t q
      · exact law_rivalsC t q hs ok hq
      · by_cases hn : M.plans t = []
        · exact law_rivalsD t q hs ok hq hn
        · cases aq : M.allowed t q
          · exact law_rivalsE t q hs ok hq hn aq
          · obtain ⟨a, hBest, ha, aa, bB⟩ := M.best_of hn
            obtain ⟨b, hFair, hb, ab, bF⟩ := M.fair_of hn
            have q4 := (bF q hq aq).1
            by_cases he : M.sum (M.ranks t q) = M.sum (M.ranks t a)
            · by_cases hm : M.most (M.ranks t q) = M.most (M.ranks t b)
              · by_cases hz : M.sum (M.ranks t q) = M.sum (M.ranks t b)
                · exact law_rivalsH t q a b hs ok hq hBest ha aa bB hFair hb ab bF aq he hm hz
                · exact law_rivalsG t q a b hs ok hq hBest ha aa bB hFair hb ab bF aq he hm (by have := ((bF q hq aq).2 hm).1; omega)
              · exact law_rivalsF t q a b hs ok hq hBest ha aa bB hFair hb ab bF aq he (by omega)
            · have he' : (M.sum (M.ranks t q) == M.sum (M.ranks t a)) = false := by simpa using he
              by_cases hm : M.most (M.ranks t q) = M.most (M.ranks t b)
              · by_cases hz : M.sum (M.ranks t q) = M.sum (M.ranks t b)
                · exact law_rivalsK t q a b hs ok hq hBest ha aa bB hFair hb ab bF aq he' hm hz
                · exact law_rivalsJ t q a b hs ok hq hBest ha aa bB hFair hb ab bF aq he' hm (by have := ((bF q hq aq).2 hm).1; omega)
              · exact law_rivalsI t q a b hs ok hq hBest ha aa bB hFair hb ab bF aq he' (by omega)
    · exact law_rivalsB t q hs ok
  · exact law_rivalsA t q hs
end Go.Ab
namespace Go.Proofs.Ytahflobpopclpaa.moveRivals
open Go.ChangeShapes Go.WideShapes Go.ChangeAt Go.RowKit Go.Ab
set_option linter.unusedVariables false
theorem own : ownKnob Try.prog.godebug = none := by kernel_rfl
theorem laidOut : laidOutB Try.prog = true := by kernel_rfl
set_option maxRecDepth 100000 in
theorem lifted (os : Os) (started : os.Started) (H : Type) (enc : TypeId × Value → H) :
    ReturnsInHanded {} Try.checked os 8 .any (Rows.moveRivalsSpec.pre6 enc Try.prog Try.f8 Rows.moveRivalsRow.domain false) (Rows.moveRivalsSpec.post enc Try.prog Try.f8 false true false false) := by
  refine returnsInHanded_of_change_sized (C := Try.checked) own started (by kernel_rfl) Try.func8
    (ChangeSpec.witness6 (enc := enc) (C := Try.checked) false ⟨#[], #[.agg #[.slice none 0 0, .int .i64 0, .slice none 0 0, .slice none 0 0, .slice none 0 0, .slice none 0 0], .slice none 0 0], []⟩ 8 (by kernel_rfl) (by kernel_rfl) (by kernel_rfl) (by kernel_rfl)) ?_
  intro W base args ds gs before hval0 hW hcnd hsz0 _
  have hval : ∀ (j : Nat) t v, Try.f8.params[j]? = some t → args[j]? = some v → Value.okWide Try.prog W .any base t v := hval0
  have hW' := hW
  obtain ⟨p, q, hA0, hV, rfl, hfz, hnd⟩ := hW
  have hA : DataW.TrodAll enc Try.prog W 0 (fun _ => true) true Try.f8.params.toList args.toList ds p := hA0
  rw [Try.params8] at hA hval
  obtain ⟨v0, vs0, d0, ds0, p0, q0, hargs, rfl, rfl, h0, r0⟩ := trodAll_cons hA
  obtain ⟨v1, vs1, d1, ds1, p1, q1, rfl, rfl, rfl, h1, r1⟩ := trodAll_cons r0
  obtain ⟨rfl, rfl, rfl⟩ := trodAll_nil r1
  obtain rfl : args = #[v0, v1] := by cases args; simp_all
  obtain ⟨rfl, rfl⟩ := trodVars_none hV
  have lt0 : ∀ x ∈ p0, x.block < W.heap.size := by obtain ⟨m, hm⟩ := h0; exact DataW.trod_lt m _ _ _ hm
  have lt1 : ∀ x ∈ p1, x.block < W.heap.size := by obtain ⟨m, hm⟩ := h1; exact DataW.trod_lt m _ _ _ hm
  obtain ⟨t0, ht0⟩ := town_in h0
  obtain ⟨l1, hl1⟩ := ints_in h1 (let ⟨a, n, c, e⟩ := okWide_slice Try.underlying23 (hval 1 23 v1 rfl rfl); ⟨a, n, c, e⟩)
  clear hA0 hval0 hsz0
  have hargsR : RelL ⟨fun _ => False, [], [], W⟩ [.agg (cT t0), .sl 1 (rI l1)] (#[v0, v1] : Array Value).toList := by
    simp only [RelL]
    exact ⟨_, _, rfl, ht0, _, _, rfl, hl1, rfl⟩
  refine (law_rivals t0 l1 (fun _ => False) W _ (fun _ h => h.elim) hargsR).mono fun e W' ⟨v, he, hr, bel⟩ => ?_
  simp only [Rel] at hr
  subst hr
  subst he
  exact ⟨_, rfl, _, _, _, [], _, [], hW', trodAll_mk1 (shut_bool Try.underlying4 _), (trodAll_cons_mk (Below.trod laidOut (by kernel_rfl) (of_decide_eq_true (by kernel_rfl)) h0 bel lt0) (trodAll_cons_mk (Below.trod laidOut (by kernel_rfl) (of_decide_eq_true (by kernel_rfl)) h1 bel lt1) trodAll_mk0)), rfl, bel.frame _, fun h => by cases h⟩
theorem over : Rows.moveRivalsRow.holds Try.pinned (OpenSpec.ofChange Rows.moveRivalsSpec) :=
  OpenClaim.holds_of_wide 8 Try.f8 rfl rfl rfl rfl rfl rfl rfl ⟨rfl, rfl, rfl, rfl, rfl⟩ rfl rfl rfl rfl rfl (by kernel_rfl) Try.func8 (by kernel_rfl)
    (of_decide_eq_true (by kernel_rfl)) (by unfold Func.isWrapper; first | (rw [if_pos (by decide +kernel)]; kernel_rfl) | (rw [if_neg (by decide +kernel)]; exact ⟨rfl, rfl⟩))
    (fun os started H enc _ => lifted os started H enc)
end Go.Proofs.Ytahflobpopclpaa.moveRivals
namespace Go.Proofs.Ytahflobpopclpaa
theorem moveRivals_holds : Rows.MoveRivalsSaid := moveRivals.over
end Go.Proofs.Ytahflobpopclpaa
