import Derived.Test.YtahflobpopclpaaP7
import Derived.Test.YtahflobpopclpaaAb31
namespace Go.Ab
open Go Go.RowKit Go.Proofs Fac
set_option linter.unusedVariables false
set_option linter.unusedSimpArgs false
set_option maxRecDepth 4000
set_option maxHeartbeats 1000000
def lots (n : Int) : Value := .iface 114 (.agg #[.int .i64 n])
theorem mv_catch0 (o : AObj) (b : Bool) (hc : Closed [o, .box 4 [.bool b]]) : DfrS Try.prog 99 [.ptr 1 0] [o, .box 4 [.bool b]] .returning .returning [o, .box 4 [.bool b]] := by
  refine DfrS_intro (fn := Try.f99) (v := .nilif) (uv := .nilIface) Try.func99 rfl rfl rfl rfl rfl (fun c cs hm => .inl ⟨by simp [recoverD, hm], rfl, rfl⟩) (fun E => by simp only [Rel]) ?_
  apply T_block
  apply T_seq
  apply T_r F
  · (simp only [go_sem, Nat.reducePow, Nat.reduceLT, Nat.reduceAdd, Nat.reduceSub, Nat.reduceMul, Nat.reduceLeDiff, reduceIte, Nat.reduceEqDiff, Nat.reduceBEq, Try.ntmps99]) <;> exact rfl
  apply K_seq
  apply T_if
  · exact rfl
  · intro _
    apply T_r F
    · (simp only [go_sem, Nat.reducePow, Nat.reduceLT, Nat.reduceAdd, Nat.reduceSub, Nat.reduceMul, Nat.reduceLeDiff, reduceIte, Nat.reduceEqDiff, Nat.reduceBEq, Try.ntmps99]) <;> exact rfl
    apply K_blk
    exact ⟨.inl rfl, 2, by simp, by simp, rfl, hc⟩
  · intro h
    exact absurd h (by decide)
theorem mv_catch1 (o : AObj) (b : Bool) (n : Int) (hc : Closed [o, .box 4 [.bool false]]) : DfrS Try.prog 99 [.ptr 1 0] [o, .box 4 [.bool b]] (.panicking (chainOf (lots n))) (.panicking [{ v := lots n, recovered := true }]) [o, .box 4 [.bool false]] := by
  refine DfrS_intro (fn := Try.f99) (v := .iface 114 (.agg [.int .i64 n])) (uv := lots n) Try.func99 rfl rfl rfl rfl rfl (fun c cs hm => .inr (by simp [recoverD, hm, chainOf])) (fun E => by simp [lots, Rel, RelL]) ?_
  apply T_block
  apply T_seq
  apply T_r F
  · (simp only [go_sem, Nat.reducePow, Nat.reduceLT, Nat.reduceAdd, Nat.reduceSub, Nat.reduceMul, Nat.reduceLeDiff, reduceIte, Nat.reduceEqDiff, Nat.reduceBEq, Try.ntmps99]) <;> exact rfl
  apply K_seq
  apply T_if
  · exact rfl
  · intro h
    exact absurd h (by decide)
  · intro _
    apply T_seq
    apply T_r F
    · (simp only [go_sem, Nat.reducePow, Nat.reduceLT, Nat.reduceAdd, Nat.reduceSub, Nat.reduceMul, Nat.reduceLeDiff, reduceIte, Nat.reduceEqDiff, Nat.reduceBEq, Try.ntmps99]) <;> exact rfl
    apply K_seq
    apply T_if
    · exact rfl
    · intro _
      apply T_seq
      apply T_r F
      · (simp only [go_sem, Nat.reducePow, Nat.reduceLT, Nat.reduceAdd, Nat.reduceSub, Nat.reduceMul, Nat.reduceLeDiff, reduceIte, Nat.reduceEqDiff, Nat.reduceBEq, Try.ntmps99]) <;> exact rfl
      apply K_seq
      apply T_r F
      · (simp only [go_sem, Nat.reducePow, Nat.reduceLT, Nat.reduceAdd, Nat.reduceSub, Nat.reduceMul, Nat.reduceLeDiff, reduceIte, Nat.reduceEqDiff, Nat.reduceBEq, Try.ntmps99]) <;> exact rfl
      apply K_blk
      exact ⟨.inl rfl, 2, by simp, by simp, rfl, hc⟩
    · intro h
      exact absurd h (by decide)
end Go.Ab
namespace Go.Ab
open Go Go.RowKit Go.Proofs Fac
set_option linter.unusedVariables false
set_option linter.unusedSimpArgs false
set_option maxRecDepth 4000
set_option maxHeartbeats 1000000
theorem closed_B (t : Town) (p : List Int) (b : Bool) : Closed [.box 69 (cW t p), .box 4 [.bool b]] := by
  intro o ho
  simp only [List.mem_cons, List.not_mem_nil, or_false] at ho
  rcases ho with rfl | rfl
  · simp only [AObj.all, cW, V.allL, V.all, rI_all, rB_all, rL_all, rH_all, rP_all, Bool.and_self]
  · rfl
theorem mv_gone1ok0 (t : Town) (p0 : List Int) (lot : Int) (m : List Int) (hg : Ret Try.prog 100 [.agg (cW t p0), .nil, .int .i64 lot] (.sl 1 (rI m))) : Ret Try.prog 84 [.agg (cW t p0), .nil, .int .i64 lot] (.tup [.sl 1 (rI m), .bool true]) := by
  rw [cW_eq] at *
  refine Ret_defer (F := F) (fn := Try.f84) (l1 := [0]) (i := 1) (gd := 99) (first := []) (caps := [.ptr 1 0]) (sA := ⟨[.agg (cW t p0), .nil, .int .i64 lot, .ptr 0 0, .undef, .undef, .nil, .ptr 1 0, .undef, .undef, .undef, .undef, .undef], [.box 69 (cW t p0), .box 4 [.bool false]]⟩) (sR := ⟨[.agg (cW t p0), .nil, .int .i64 lot, .ptr 0 0, .undef, .undef, .nil, .ptr 1 0, .fn 99 [] [.ptr 1 0], .undef, .undef, .undef, .undef], [.box 69 (cW t p0), .box 4 [.bool false]]⟩) Try.func84 rfl ?_ ?_ rfl rfl rfl rfl rfl ⟨_, Try.func99, rfl, rfl⟩ ?_
  · apply T_r F
    · (simp only [go_sem, Nat.reducePow, Nat.reduceLT, Nat.reduceAdd, Nat.reduceSub, Nat.reduceMul, Nat.reduceLeDiff, reduceIte, Nat.reduceEqDiff, Nat.reduceBEq, Try.ntmps84, cW_eq]) <;> exact rfl
    exact ⟨rfl, rfl⟩
  · apply RunR.of_W
    apply W_run
    · (simp only [go_sem, Nat.reducePow, Nat.reduceLT, Nat.reduceAdd, Nat.reduceSub, Nat.reduceMul, Nat.reduceLeDiff, reduceIte, Nat.reduceEqDiff, Nat.reduceBEq, Try.ntmps84, cW_eq]) <;> exact rfl
    apply W_nil
    exact rfl
  · apply T_seq
    apply T_wL F [0, 1, 2, 3, 4, 5] rfl
    apply W_pre [0, 1, 2] [3, 4, 5]
    · (simp only [go_sem, Nat.reducePow, Nat.reduceLT, Nat.reduceAdd, Nat.reduceSub, Nat.reduceMul, Nat.reduceLeDiff, reduceIte, Nat.reduceEqDiff, Nat.reduceBEq, Try.ntmps84, cW_eq]) <;> exact rfl
    apply W_call
    · (simp only [go_sem, Nat.reducePow, Nat.reduceLT, Nat.reduceAdd, Nat.reduceSub, Nat.reduceMul, Nat.reduceLeDiff, reduceIte, Nat.reduceEqDiff, Nat.reduceBEq, Try.ntmps84, cW_eq]) <;> exact rfl
    · (simp only [go_sem, Nat.reducePow, Nat.reduceLT, Nat.reduceAdd, Nat.reduceSub, Nat.reduceMul, Nat.reduceLeDiff, reduceIte, Nat.reduceEqDiff, Nat.reduceBEq, Try.ntmps84, cW_eq]) <;> exact rfl
    · exact rfl
    · (simp only [go_sem, Nat.reducePow, Nat.reduceLT, Nat.reduceAdd, Nat.reduceSub, Nat.reduceMul, Nat.reduceLeDiff, reduceIte, Nat.reduceEqDiff, Nat.reduceBEq, Try.ntmps84, cW_eq]) <;> exact rfl
    · (simp only [go_sem, Nat.reducePow, Nat.reduceLT, Nat.reduceAdd, Nat.reduceSub, Nat.reduceMul, Nat.reduceLeDiff, reduceIte, Nat.reduceEqDiff, Nat.reduceBEq, Try.ntmps84, cW_eq]) <;> exact rfl
    · exact ⟨_, Try.func100, rfl, rfl⟩
    · (simp only [go_sem, Nat.reducePow, Nat.reduceLT, Nat.reduceAdd, Nat.reduceSub, Nat.reduceMul, Nat.reduceLeDiff, reduceIte, Nat.reduceEqDiff, Nat.reduceBEq, Try.ntmps84, cW_eq]) <;> exact rfl
    · (simp only [go_sem, Nat.reducePow, Nat.reduceLT, Nat.reduceAdd, Nat.reduceSub, Nat.reduceMul, Nat.reduceLeDiff, reduceIte, Nat.reduceEqDiff, Nat.reduceBEq, Try.ntmps84, cW_eq]) <;> exact rfl
    · exact hg
    apply W_run
    · (simp only [go_sem, Nat.reducePow, Nat.reduceLT, Nat.reduceAdd, Nat.reduceSub, Nat.reduceMul, Nat.reduceLeDiff, reduceIte, Nat.reduceEqDiff, Nat.reduceBEq, Try.ntmps84, cW_eq]) <;> exact rfl
    apply W_nil
    apply K_seq
    apply T_ret
    refine ⟨_, _, .inl ⟨.inr rfl, mv_catch0 _ true (closed_B t p0 true)⟩, rfl, ?_⟩
    simp only [go_sem]
theorem mv_gone1no0 (t : Town) (p0 : List Int) (lot : Int) (n : Int) (hg : Pan Try.prog 100 [.agg (cW t p0), .nil, .int .i64 lot] (lots n)) : Ret Try.prog 84 [.agg (cW t p0), .nil, .int .i64 lot] (.tup [.nil, .bool false]) := by
  rw [cW_eq] at *
  refine Ret_defer (F := F) (fn := Try.f84) (l1 := [0]) (i := 1) (gd := 99) (first := []) (caps := [.ptr 1 0]) (sA := ⟨[.agg (cW t p0), .nil, .int .i64 lot, .ptr 0 0, .undef, .undef, .nil, .ptr 1 0, .undef, .undef, .undef, .undef, .undef], [.box 69 (cW t p0), .box 4 [.bool false]]⟩) (sR := ⟨[.agg (cW t p0), .nil, .int .i64 lot, .ptr 0 0, .undef, .undef, .nil, .ptr 1 0, .fn 99 [] [.ptr 1 0], .undef, .undef, .undef, .undef], [.box 69 (cW t p0), .box 4 [.bool false]]⟩) Try.func84 rfl ?_ ?_ rfl rfl rfl rfl rfl ⟨_, Try.func99, rfl, rfl⟩ ?_
  · apply T_r F
    · (simp only [go_sem, Nat.reducePow, Nat.reduceLT, Nat.reduceAdd, Nat.reduceSub, Nat.reduceMul, Nat.reduceLeDiff, reduceIte, Nat.reduceEqDiff, Nat.reduceBEq, Try.ntmps84, cW_eq]) <;> exact rfl
    exact ⟨rfl, rfl⟩
  · apply RunR.of_W
    apply W_run
    · (simp only [go_sem, Nat.reducePow, Nat.reduceLT, Nat.reduceAdd, Nat.reduceSub, Nat.reduceMul, Nat.reduceLeDiff, reduceIte, Nat.reduceEqDiff, Nat.reduceBEq, Try.ntmps84, cW_eq]) <;> exact rfl
    apply W_nil
    exact rfl
  · apply T_seq
    apply T_panCallW F (l1 := [0, 1, 2]) (i := 3) [4, 5] rfl
    apply W_run
    · (simp only [go_sem, Nat.reducePow, Nat.reduceLT, Nat.reduceAdd, Nat.reduceSub, Nat.reduceMul, Nat.reduceLeDiff, reduceIte, Nat.reduceEqDiff, Nat.reduceBEq, Try.ntmps84, cW_eq]) <;> exact rfl
    apply W_nil
    refine ⟨_, _, _, _, 100, [], [], _, _, _, rfl, rfl, rfl, rfl, rfl, ⟨_, Try.func100, rfl, rfl⟩, ?_, hg, ?_⟩
    · (simp only [go_sem, Nat.reducePow, Nat.reduceLT, Nat.reduceAdd, Nat.reduceSub, Nat.reduceMul, Nat.reduceLeDiff, reduceIte, Nat.reduceEqDiff, Nat.reduceBEq, Try.ntmps84, cW_eq]) <;> exact rfl
    · apply K_seqP
      exact ⟨_, _, .inr ⟨_, rfl, mv_catch1 _ false _ (closed_B t p0 false)⟩, rfl, rfl⟩
theorem mv_gone1ok1 (t : Town) (p0 : List Int) (lot : Int) (l m : List Int) (hg : Ret Try.prog 100 [.agg (cW t p0), .sl 1 (rI l), .int .i64 lot] (.sl 1 (rI m))) : Ret Try.prog 84 [.agg (cW t p0), .sl 1 (rI l), .int .i64 lot] (.tup [.sl 1 (rI m), .bool true]) := by
  rw [cW_eq] at *
  refine Ret_defer (F := F) (fn := Try.f84) (l1 := [0]) (i := 1) (gd := 99) (first := []) (caps := [.ptr 1 0]) (sA := ⟨[.agg (cW t p0), .sl 1 (rI l), .int .i64 lot, .ptr 0 0, .undef, .undef, .nil, .ptr 1 0, .undef, .undef, .undef, .undef, .undef], [.box 69 (cW t p0), .box 4 [.bool false]]⟩) (sR := ⟨[.agg (cW t p0), .sl 1 (rI l), .int .i64 lot, .ptr 0 0, .undef, .undef, .nil, .ptr 1 0, .fn 99 [] [.ptr 1 0], .undef, .undef, .undef, .undef], [.box 69 (cW t p0), .box 4 [.bool false]]⟩) Try.func84 rfl ?_ ?_ rfl rfl rfl rfl rfl ⟨_, Try.func99, rfl, rfl⟩ ?_
  · apply T_r F
    · (simp only [go_sem, Nat.reducePow, Nat.reduceLT, Nat.reduceAdd, Nat.reduceSub, Nat.reduceMul, Nat.reduceLeDiff, reduceIte, Nat.reduceEqDiff, Nat.reduceBEq, Try.ntmps84, cW_eq]) <;> exact rfl
    exact ⟨rfl, rfl⟩
  · apply RunR.of_W
    apply W_run
    · (simp only [go_sem, Nat.reducePow, Nat.reduceLT, Nat.reduceAdd, Nat.reduceSub, Nat.reduceMul, Nat.reduceLeDiff, reduceIte, Nat.reduceEqDiff, Nat.reduceBEq, Try.ntmps84, cW_eq]) <;> exact rfl
    apply W_nil
    exact rfl
  · apply T_seq
    apply T_wL F [0, 1, 2, 3, 4, 5] rfl
    apply W_pre [0, 1, 2] [3, 4, 5]
    · (simp only [go_sem, Nat.reducePow, Nat.reduceLT, Nat.reduceAdd, Nat.reduceSub, Nat.reduceMul, Nat.reduceLeDiff, reduceIte, Nat.reduceEqDiff, Nat.reduceBEq, Try.ntmps84, cW_eq]) <;> exact rfl
    apply W_call
    · (simp only [go_sem, Nat.reducePow, Nat.reduceLT, Nat.reduceAdd, Nat.reduceSub, Nat.reduceMul, Nat.reduceLeDiff, reduceIte, Nat.reduceEqDiff, Nat.reduceBEq, Try.ntmps84, cW_eq]) <;> exact rfl
    · (simp only [go_sem, Nat.reducePow, Nat.reduceLT, Nat.reduceAdd, Nat.reduceSub, Nat.reduceMul, Nat.reduceLeDiff, reduceIte, Nat.reduceEqDiff, Nat.reduceBEq, Try.ntmps84, cW_eq]) <;> exact rfl
    · exact rfl
    · (simp only [go_sem, Nat.reducePow, Nat.reduceLT, Nat.reduceAdd, Nat.reduceSub, Nat.reduceMul, Nat.reduceLeDiff, reduceIte, Nat.reduceEqDiff, Nat.reduceBEq, Try.ntmps84, cW_eq]) <;> exact rfl
    · (simp only [go_sem, Nat.reducePow, Nat.reduceLT, Nat.reduceAdd, Nat.reduceSub, Nat.reduceMul, Nat.reduceLeDiff, reduceIte, Nat.reduceEqDiff, Nat.reduceBEq, Try.ntmps84, cW_eq]) <;> exact rfl
    · exact ⟨_, Try.func100, rfl, rfl⟩
    · (simp only [go_sem, Nat.reducePow, Nat.reduceLT, Nat.reduceAdd, Nat.reduceSub, Nat.reduceMul, Nat.reduceLeDiff, reduceIte, Nat.reduceEqDiff, Nat.reduceBEq, Try.ntmps84, cW_eq]) <;> exact rfl
    · (simp only [go_sem, Nat.reducePow, Nat.reduceLT, Nat.reduceAdd, Nat.reduceSub, Nat.reduceMul, Nat.reduceLeDiff, reduceIte, Nat.reduceEqDiff, Nat.reduceBEq, Try.ntmps84, cW_eq]) <;> exact rfl
    · exact hg
    apply W_run
    · (simp only [go_sem, Nat.reducePow, Nat.reduceLT, Nat.reduceAdd, Nat.reduceSub, Nat.reduceMul, Nat.reduceLeDiff, reduceIte, Nat.reduceEqDiff, Nat.reduceBEq, Try.ntmps84, cW_eq]) <;> exact rfl
    apply W_nil
    apply K_seq
    apply T_ret
    refine ⟨_, _, .inl ⟨.inr rfl, mv_catch0 _ true (closed_B t p0 true)⟩, rfl, ?_⟩
    simp only [go_sem]
theorem mv_gone1no1 (t : Town) (p0 : List Int) (lot : Int) (l : List Int) (n : Int) (hg : Pan Try.prog 100 [.agg (cW t p0), .sl 1 (rI l), .int .i64 lot] (lots n)) : Ret Try.prog 84 [.agg (cW t p0), .sl 1 (rI l), .int .i64 lot] (.tup [.nil, .bool false]) := by
  rw [cW_eq] at *
  refine Ret_defer (F := F) (fn := Try.f84) (l1 := [0]) (i := 1) (gd := 99) (first := []) (caps := [.ptr 1 0]) (sA := ⟨[.agg (cW t p0), .sl 1 (rI l), .int .i64 lot, .ptr 0 0, .undef, .undef, .nil, .ptr 1 0, .undef, .undef, .undef, .undef, .undef], [.box 69 (cW t p0), .box 4 [.bool false]]⟩) (sR := ⟨[.agg (cW t p0), .sl 1 (rI l), .int .i64 lot, .ptr 0 0, .undef, .undef, .nil, .ptr 1 0, .fn 99 [] [.ptr 1 0], .undef, .undef, .undef, .undef], [.box 69 (cW t p0), .box 4 [.bool false]]⟩) Try.func84 rfl ?_ ?_ rfl rfl rfl rfl rfl ⟨_, Try.func99, rfl, rfl⟩ ?_
  · apply T_r F
    · (simp only [go_sem, Nat.reducePow, Nat.reduceLT, Nat.reduceAdd, Nat.reduceSub, Nat.reduceMul, Nat.reduceLeDiff, reduceIte, Nat.reduceEqDiff, Nat.reduceBEq, Try.ntmps84, cW_eq]) <;> exact rfl
    exact ⟨rfl, rfl⟩
  · apply RunR.of_W
    apply W_run
    · (simp only [go_sem, Nat.reducePow, Nat.reduceLT, Nat.reduceAdd, Nat.reduceSub, Nat.reduceMul, Nat.reduceLeDiff, reduceIte, Nat.reduceEqDiff, Nat.reduceBEq, Try.ntmps84, cW_eq]) <;> exact rfl
    apply W_nil
    exact rfl
  · apply T_seq
    apply T_panCallW F (l1 := [0, 1, 2]) (i := 3) [4, 5] rfl
    apply W_run
    · (simp only [go_sem, Nat.reducePow, Nat.reduceLT, Nat.reduceAdd, Nat.reduceSub, Nat.reduceMul, Nat.reduceLeDiff, reduceIte, Nat.reduceEqDiff, Nat.reduceBEq, Try.ntmps84, cW_eq]) <;> exact rfl
    apply W_nil
    refine ⟨_, _, _, _, 100, [], [], _, _, _, rfl, rfl, rfl, rfl, rfl, ⟨_, Try.func100, rfl, rfl⟩, ?_, hg, ?_⟩
    · (simp only [go_sem, Nat.reducePow, Nat.reduceLT, Nat.reduceAdd, Nat.reduceSub, Nat.reduceMul, Nat.reduceLeDiff, reduceIte, Nat.reduceEqDiff, Nat.reduceBEq, Try.ntmps84, cW_eq]) <;> exact rfl
    · apply K_seqP
      exact ⟨_, _, .inr ⟨_, rfl, mv_catch1 _ false _ (closed_B t p0 false)⟩, rfl, rfl⟩
end Go.Ab
namespace Go.Ab
open Go Go.RowKit Go.Proofs Fac
set_option linter.unusedVariables false
set_option linter.unusedSimpArgs false
set_option maxRecDepth 4000
set_option maxHeartbeats 1000000
/-! ### towns, read back from what is handed in -/
def decM {α : Type} (f : List V → Option α) : List (List V) → Option (List α)
  | [] => some []
  | r :: rs => match f r with
    | some x => match decM f rs with
      | some xs => some (x :: xs)
      | none => none
    | none => none
theorem decM_eq {α : Type} {f : List V → Option α} {e : α → List V} (hf : ∀ r x, f r = some x → r = e x) : ∀ {rows : List (List V)} {l : List α}, decM f rows = some l → rows = l.map e
  | [], l, h => by simp only [decM, Option.some.injEq] at h; subst h; rfl
  | r :: rs, l, h => by
    simp only [decM] at h
    split at h
    · rename_i x hx
      split at h
      · rename_i xs hxs
        simp only [Option.some.injEq] at h; subst h
        rw [List.map_cons, ← decM_eq hf hxs, ← hf _ _ hx]
      · cases h
    · cases h
def fI : List V → Option Int
  | [.int .i64 n] => some n
  | _ => none
theorem fI_eq (r : List V) (x : Int) (h : fI r = some x) : r = [.int .i64 x] := by
  unfold fI at h
  split at h <;> simp_all
def fB : List V → Option Bool
  | [.bool b] => some b
  | _ => none
theorem fB_eq (r : List V) (x : Bool) (h : fB r = some x) : r = [.bool x] := by
  unfold fB at h
  split at h <;> simp_all
def fL : List V → Option (List Int)
  | [.sl 1 rows] => decM fI rows
  | _ => none
theorem fL_eq (r : List V) (x : List Int) (h : fL r = some x) : r = [.sl 1 (rI x)] := by
  unfold fL at h
  split at h
  · rw [decM_eq fI_eq h]; rfl
  · cases h
def gH : List V → Option House
  | [.int .i64 n, .sl 1 rows, .bool b] => match decM fI rows with
    | some l => some ⟨n, l, b⟩
    | none => none
  | _ => none
theorem gH_eq (r : List V) (x : House) (h : gH r = some x) : r = [.int .i64 x.lot, .sl 1 (rI x.wishes), .bool x.school] := by
  unfold gH at h
  split at h
  · split at h
    · rename_i hl
      simp only [Option.some.injEq] at h; subst h
      rw [decM_eq fI_eq hl]; rfl
    · cases h
  · cases h
def fP : List V → Option (Int × Int)
  | [.int .i64 a, .int .i64 b] => some (a, b)
  | _ => none
theorem fP_eq (r : List V) (x : Int × Int) (h : fP r = some x) : r = [.int .i64 x.1, .int .i64 x.2] := by
  unfold fP at h
  split at h
  · simp only [Option.some.injEq] at h; subst h; rfl
  · cases h
def fI0 : V → Option (List Int)
  | .nil => some []
  | .sl 1 rows => decM fI rows
  | _ => none
theorem fI0_rel {x : V} {l : List Int} (h : fI0 x = some l) {E : Env} {v : Value} (hr : Rel E x v) : Rel E (.sl 1 (rI l)) v := by
  unfold fI0 at h
  split at h
  · simp only [Option.some.injEq] at h; subst h
    simp only [Rel] at hr ⊢
    exact ⟨none, 0, hr, by simp [rI], .inl rfl⟩
  · rw [decM_eq fI_eq h] at hr
    exact hr
  · cases h
def decW : List V → Option (Town × List Int)
  | [.sl 1 w, .int .i64 r, .sl 1 s, .sl 1 g, .sl 3 h, .sl 2 k, p] => match decM fL w, decM fI s, decM fB g, decM gH h, decM fP k, fI0 p with
    | some w, some s, some g, some h, some k, some p => some (⟨w, r, s, g, h, k⟩, p)
    | _, _, _, _, _, _ => none
  | _ => none
theorem decW_rel {cs : List V} {t : Town} {p : List Int} (h : decW cs = some (t, p)) {E : Env} {v : Value} (hr : Rel E (.agg cs) v) : Rel E (.agg (cW t p)) v := by
  unfold decW at h
  split at h
  · split at h
    · rename_i h1 h2 h3 h4 h5 h6
      simp only [Option.some.injEq, Prod.mk.injEq] at h
      obtain ⟨rfl, rfl⟩ := h
      rw [decM_eq fL_eq h1, decM_eq fI_eq h2, decM_eq fB_eq h3, decM_eq gH_eq h4, decM_eq fP_eq h5] at hr
      unfold Rel at hr ⊢
      obtain ⟨vs, rfl, hL⟩ := hr
      refine ⟨vs, rfl, ?_⟩
      simp only [cW, RelL] at hL ⊢
      obtain ⟨u1, l1, e1, r1, u2, l2, e2, r2, u3, l3, e3, r3, u4, l4, e4, r4, u5, l5, e5, r5, u6, l6, e6, r6, u7, l7, e7, r7, e8⟩ := hL
      exact ⟨u1, l1, e1, r1, u2, l2, e2, r2, u3, l3, e3, r3, u4, l4, e4, r4, u5, l5, e5, r5, u6, l6, e6, r6, u7, l7, e7, fI0_rel h6 r7, e8⟩
    · cases h
  · cases h
theorem Ret.town {P : Program} {f : FuncId} {cs xs : List V} {r : V} {t : Town} {p : List Int} (hd : decW cs = some (t, p)) (h : Ret P f (.agg (cW t p) :: xs) r) : Ret P f (.agg cs :: xs) r := by
  intro bad w cargs hb hR
  refine h bad w cargs hb ?_
  unfold RelL at hR ⊢
  obtain ⟨u, us, e, hu, hus⟩ := hR
  exact ⟨u, us, e, decW_rel hd hu, hus⟩
/-! ### gone1, as the interpreter answers it -/
def gone1A (t : Town) (rows : List (List V)) (l : List Int) (lot : Int) : Option V :=
  if 0 ≤ lot ∧ lot.toNat < t.gone.length ∧ t.houses.length ≤ 1000 ∧ l.length < t.houses.length then
    if l.contains lot = false ∧ M.gone t lot = false ∧ ¬ M.rank t l.length lot < 0 then some (.tup [.sl 1 (rows ++ [[.int .i64 lot]]), .bool true]) else some (.tup [.nil, .bool false])
  else none
def gone1X (args : List V) : Option V :=
  match args with
  | [.agg cs, .nil, .int .i64 lot] => match decW cs with
    | some (t, _) => gone1A t [] [] lot
    | none => none
  | [.agg cs, .sl 1 rows, .int .i64 lot] => match decW cs with
    | some (t, _) => match decM fI rows with
      | some (x :: l) => gone1A t rows (x :: l) lot
      | _ => none
    | none => none
  | _ => none
theorem rI_snoc (l : List Int) (n : Int) : rI l ++ [[.int .i64 n]] = rI (l ++ [n]) := by simp [rI]
theorem gone1X_ret {args : List V} {r : V} (h : gone1X args = some r) : Ret Try.prog 84 args r := by
  unfold gone1X at h
  split at h
  · rename_i cs lot
    split at h
    · rename_i t p hd
      refine Ret.town hd ?_
      unfold gone1A at h
      split at h
      · rename_i hc
        obtain ⟨h1, h2, h3, h4⟩ := hc
        simp only [List.length_nil] at h4 h
        split at h
        · rename_i hok
          simp only [Option.some.injEq] at h; subst h
          have := mv_goes0 t p lot h1 h2 h3 h4 ⟨hok.2.1, hok.2.2⟩
          exact mv_gone1ok0 t p lot [lot] this
        · rename_i hok
          simp only [Option.some.injEq] at h; subst h
          refine mv_gone1no0 t p lot ((0 : Nat) : Int) (mv_goes0p t p lot h1 h2 h3 h4 ?_)
          cases hg : M.gone t lot
          · right
            simp only [List.contains_nil, hg, true_and, Decidable.not_not] at hok
            exact hok
          · exact .inl rfl
      · cases h
    · cases h
  · rename_i cs rows lot
    split at h
    · rename_i t p hd
      split at h
      · rename_i x l hl
        refine Ret.town hd ?_
        have hrows : rows = rI (x :: l) := decM_eq fI_eq hl
        subst hrows
        unfold gone1A at h
        split at h
        · rename_i hc
          obtain ⟨h1, h2, h3, h4⟩ := hc
          split at h
          · rename_i hok
            simp only [Option.some.injEq] at h; subst h
            have := mv_goes1 t p lot h1 h2 h3 x l h4 hok
            rw [rI_snoc] at this ⊢
            exact mv_gone1ok1 t p lot (x :: l) _ this
          · rename_i hok
            simp only [Option.some.injEq] at h; subst h
            refine mv_gone1no1 t p lot (x :: l) (((x :: l).length : Nat) : Int) (mv_goes1p t p lot h1 h2 h3 x l h4 ?_)
            cases hg : M.gone t lot
            · cases hc : (x :: l).contains lot
              · right; right
                simp only [hg, hc, true_and, Decidable.not_not] at hok
                exact hok
              · exact .inl rfl
            · exact .inr (.inl rfl)
        · cases h
      · cases h
    · cases h
  · cases h
def X0 (g : FuncId) (args : List V) : Option V := if g = 84 then gone1X args else none
theorem X0_ok : ∀ g args r, X0 g args = some r → Ret Try.prog g args r ∧ Callee Try.prog g := by
  intro g args r h
  unfold X0 at h
  split at h
  · rename_i e; subst e
    exact ⟨gone1X_ret h, _, Try.func84, rfl, rfl⟩
  · cases h
end Go.Ab
namespace Go.Ab
open Go Go.RowKit Go.Proofs
/-! ### the examples that each statement checks -/
theorem noNum : ∀ (g : Nat) fn, Try.prog.funcs[g]? = some fn → (fn.name == "runtime.NumGoroutine") = false := by
  have h : (Try.prog.funcs.all fun fn => (fn.name == "runtime.NumGoroutine") == false) = true := by kernel_rfl
  intro g fn hg
  rw [Array.all_eq_true_iff_forall_mem] at h
  have := h fn (Array.mem_of_getElem? hg)
  simpa using this
def keep24 (n : Nat) : Bool := n == 24
def queue66 (g : FuncId) : Bool := g == 66
def isB (o : Option V) (b : Bool) : Bool := match o with
  | some (.bool c) => b == c
  | _ => false
theorem isB_eq {o : Option V} {b : Bool} (h : isB o b = true) : o = some (.bool b) := by
  unfold isB at h
  split at h
  · rw [beq_iff_eq] at h; rw [h]
  · cases h
theorem known_run : isB ((Interp.run F keep24 X0 queue66 200).data 16 []) true = true := by kernel_rfl
theorem known_ok : Ret Try.prog 16 [] (.bool true) := Ret.of_run F keep24 queue66 200 X0_ok noNum (isB_eq known_run)
end Go.Ab
