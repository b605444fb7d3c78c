import Derived.Test.YtahflobpopclpaaAb22
import Derived.Laws.BitsLemmas
namespace Go.Ab
open Go Go.RowKit
set_option linter.unusedVariables false
/-! ### rules for walks -/
section
variable {P : Program} {b : Nat} {ro : Option Nat} {s s' s1 : St} {K : Exit → St → Prop} {id : Nat} {ops : Array Oper} {x y z : Code} {c : Operand} {t : Bool} {l l1 : List Nat} {KK : St → Prop}
theorem T_sr (F : Facts P) (h : runV F ops (List.range ops.size) s = some (s', [])) (k : T P b ro y s' K) : T P b ro (.seq (.region id ops false) y) s K :=
  T_seq (T_reg F (by unfold RegC; rw [h]; exact k))
theorem T_r (F : Facts P) (h : runV F ops (List.range ops.size) s = some (s', [])) (k : K .normal s') : T P b ro (.region id ops false) s K :=
  T_reg F (by unfold RegC; rw [h]; exact k)
theorem T_srQ (F : Facts P) (hB : quietB ops = true) (h : runQ F ops (List.range ops.size) s = some (s', [])) (k : T P b ro y s' K) : T P b ro (.seq (.region id ops true) y) s K :=
  T_seq (T_regQ F hB (by unfold RegQC; rw [h]; exact k))
theorem T_rQ (F : Facts P) (hB : quietB ops = true) (h : runQ F ops (List.range ops.size) s = some (s', [])) (k : K .normal s') : T P b ro (.region id ops true) s K :=
  T_regQ F hB (by unfold RegQC; rw [h]; exact k)
/-- With calls. -/
theorem T_sw (F : Facts P) (k : RegW F ops (List.range ops.size) s (fun s' => T P b ro y s' K)) : T P b ro (.seq (.region id ops false) y) s K := by
  obtain ⟨s', hr, hk⟩ := k
  exact T_seq (T_region hr hk)
theorem T_w (F : Facts P) (k : RegW F ops (List.range ops.size) s (K .normal)) : T P b ro (.region id ops false) s K := by
  obtain ⟨s', hr, hk⟩ := k
  exact T_region hr hk
theorem W_run {F : Facts P} (h : runV F ops l s = some (s1, l1)) (k : RegW F ops l1 s1 KK) : RegW F ops l s KK := RegW.of_runV h k
theorem W_nil {F : Facts P} (k : KK s) : RegW F ops [] s KK := ⟨s, .nil, k⟩
theorem W_callS {F : Facts P} {i : Nat} {o : Oper} {f : Operand} {args : Array Operand} {ts : Array TypeId} {g : FuncId} {first caps vs : List V} {r : V} {h' : List AObj} (ho : ops[i]? = some o) (hw : wantedV ops s o = some true)
    (hop : o.op = .call ⟨.value f, args, ts⟩) (hx : ev s f = some (.fn g first caps)) (ha : evs s args.toList = some vs) (hb : ∃ fn, P.funcs[g]? = some fn ∧ fn.body.isSome = true ∧ (fn.name == "runtime.NumGoroutine") = false)
    (hr : RetS P g (first ++ vs ++ caps) s.h r h') (k : RegW F ops l ⟨puts s.t o.dst r, h'⟩ KK) : RegW F ops (i :: l) s KK := by
  obtain ⟨s', h1, h2⟩ := k
  exact ⟨s', .cons (.call ho hw hop hx ha hb hr) h1, h2⟩
theorem W_call {F : Facts P} {i : Nat} {o : Oper} {f : Operand} {args : Array Operand} {ts : Array TypeId} {g : FuncId} {first caps vs dargs : List V} {r : V} {h' : List AObj} (ho : ops[i]? = some o) (hw : wantedV ops s o = some true)
    (hop : o.op = .call ⟨.value f, args, ts⟩) (hx : ev s f = some (.fn g first caps)) (ha : evs s args.toList = some vs) (hb : ∃ fn, P.funcs[g]? = some fn ∧ fn.body.isSome = true ∧ (fn.name == "runtime.NumGoroutine") = false)
    (hf : frzD s.h (first ++ vs ++ caps) = h') (hc : convDL (fun b => b) h' (first ++ vs ++ caps) = some dargs) (hr : Ret P g dargs r) (k : RegW F ops l ⟨puts s.t o.dst r, h'⟩ KK) : RegW F ops (i :: l) s KK :=
  W_callS ho hw hop hx ha hb (hr.shared hf hc) k
theorem T_sq (F : Facts P) (hB : quietB ops = true) (k : RegQ F ops (fun s' => T P b ro y s' K) (List.range ops.size) s) : T P b ro (.seq (.region id ops true) y) s K := by
  simp only [quietB, Bool.and_eq_true] at hB
  have hq : ∀ (i : Nat) (o : Oper), ops[i]? = some o → quietOp o.op = true := fun i o ho => by
    have := hB.1
    rw [Array.all_eq_true_iff_forall_mem] at this
    exact this o (Array.mem_of_getElem? ho)
  refine T_seq (T_regionD (F := F) hB.2 ?_)
  exact RegQ.regD hq _ 0 (by rw [← List.range_eq_range']; exact k)
theorem T_q (F : Facts P) (hB : quietB ops = true) (k : RegQ F ops (K .normal) (List.range ops.size) s) : T P b ro (.region id ops true) s K := by
  simp only [quietB, Bool.and_eq_true] at hB
  have hq : ∀ (i : Nat) (o : Oper), ops[i]? = some o → quietOp o.op = true := fun i o ho => by
    have := hB.1
    rw [Array.all_eq_true_iff_forall_mem] at this
    exact this o (Array.mem_of_getElem? ho)
  refine T_regionD (F := F) hB.2 ?_
  exact RegQ.regD hq _ 0 (by rw [← List.range_eq_range']; exact k)
theorem Q_run {F : Facts P} (h : runQ F ops l s = some (s1, l1)) (k : RegQ F ops KK l1 s1) : RegQ F ops KK l s := RegQ.of_runQ h k
theorem Q_nil {F : Facts P} (k : KK s) : RegQ F ops KK [] s := k
theorem Q_call {F : Facts P} {i : Nat} {o : Oper} {f : Operand} {args : Array Operand} {ts : Array TypeId} {g : FuncId} {first caps vs dargs : List V} {r : V} (ho : ops[i]? = some o) (hw : wantedV ops s o = some true)
    (hop : o.op = .call ⟨.value f, args, ts⟩) (hx : ev s f = some (.fn g first caps)) (ha : evs s args.toList = some vs) (hb : ∃ fn, P.funcs[g]? = some fn ∧ fn.body.isSome = true ∧ (fn.name == "runtime.NumGoroutine") = false)
    (hc : convDL (fun b => b) s.h (first ++ vs ++ caps) = some dargs) (hr : Ret P g dargs r) (k : RegQ F ops KK l ⟨puts s.t o.dst r, s.h⟩) : RegQ F ops KK (i :: l) s :=
  ⟨_, .call ho hw hop hx ha hb hc hr, k⟩
theorem runV_append {F : Facts P} : ∀ {l1 : List Nat} {s s1 : St} {l2 : List Nat}, runV F ops l1 s = some (s1, []) → RegW F ops l2 s1 KK → RegW F ops (l1 ++ l2) s KK
  | [], s, s1, l2, h, k => by
    simp only [runV, Option.some.injEq, Prod.mk.injEq, and_true] at h
    subst h; exact k
  | i :: l, s, s1, l2, h, k => by
    simp only [runV] at h
    split at h
    · cases h
    · rename_i o ho
      split at h
      · cases h
      · rename_i hw
        obtain ⟨s', hr, hk⟩ := runV_append h k
        exact ⟨s', .cons (.skip ho hw) hr, hk⟩
      · rename_i hw
        split at h
        · rename_i v h' hop
          obtain ⟨s', hr, hk⟩ := runV_append h k
          exact ⟨s', .cons (.val ho hw hop) hr, hk⟩
        · rename_i h' hop
          obtain ⟨s', hr, hk⟩ := runV_append h k
          exact ⟨s', .cons (.eff ho hw hop) hr, hk⟩
        · simp at h
theorem W_pre {F : Facts P} (l1 l2 : List Nat) (h : runV F ops l1 s = some (s1, [])) (k : RegW F ops l2 s1 KK) : RegW F ops (l1 ++ l2) s KK := runV_append h k
theorem W_guard {F : Facts P} {i : Nat} {o : Oper} (ho : ops[i]? = some o) (hw : wantedV ops s o = some t) (h1 : t = true → RegW F ops (i :: l) s KK) (h2 : t = false → RegW F ops (i :: l) s KK) : RegW F ops (i :: l) s KK := by
  cases t
  · exact h2 rfl
  · exact h1 rfl
theorem runQ_append {F : Facts P} : ∀ {l1 : List Nat} {s s1 : St} {l2 : List Nat}, runQ F ops l1 s = some (s1, []) → RegQ F ops KK l2 s1 → RegQ F ops KK (l1 ++ l2) s
  | [], s, s1, l2, h, k => by
    simp only [runQ, Option.some.injEq, Prod.mk.injEq, and_true] at h
    subst h; exact k
  | i :: l, s, s1, l2, h, k => by
    simp only [runQ] at h
    split at h
    · cases h
    · rename_i o ho
      split at h
      · cases h
      · rename_i hw
        exact ⟨_, .skip ho hw, runQ_append h k⟩
      · rename_i hw
        split at h
        · rename_i v h' hop
          exact ⟨_, .val ho hw hop, runQ_append h k⟩
        · simp at h
theorem Q_pre {F : Facts P} (l1 l2 : List Nat) (h : runQ F ops l1 s = some (s1, [])) (k : RegQ F ops KK l2 s1) : RegQ F ops KK (l1 ++ l2) s := runQ_append h k
theorem Q_guard {F : Facts P} {i : Nat} {o : Oper} (ho : ops[i]? = some o) (hw : wantedV ops s o = some t) (h1 : t = true → RegQ F ops KK (i :: l) s) (h2 : t = false → RegQ F ops KK (i :: l) s) : RegQ F ops KK (i :: l) s := by
  cases t
  · exact h2 rfl
  · exact h1 rfl
theorem T_wL (F : Facts P) (l : List Nat) (hl : List.range ops.size = l) (k : RegW F ops l s (K .normal)) : T P b ro (.region id ops false) s K := T_w F (by rw [hl]; exact k)
theorem T_qL (F : Facts P) (l : List Nat) (hl : List.range ops.size = l) (hB : quietB ops = true) (k : RegQ F ops (K .normal) l s) : T P b ro (.region id ops true) s K := T_q F hB (by rw [hl]; exact k)
theorem T_if (hc : ev s c = some (.bool t)) (h1 : t = true → T P b ro x s K) (h2 : t = false → T P b ro y s K) : T P b ro (.cond c x y) s K :=
  T_cond hc (by cases t <;> simp_all)
theorem K_seq (h : T P b ro y s K) : seqK P b ro y K .normal s := h
theorem K_seqE {j : Nat} (h : K (.exit j) s) : seqK P b ro y K (.exit j) s := h
theorem K_seqR (h : K .ret s) : seqK P b ro y K .ret s := h
theorem K_blk (h : K .normal s) : blockK id K .normal s := h
theorem K_blkE (h : K .normal s) : blockK id K (.exit id) s := by simp only [blockK, if_true]; exact h
theorem K_blkX {j : Nat} (hj : (j == id) = false) (h : K (.exit j) s) : blockK id K (.exit j) s := by
  simp only [blockK]; rw [if_neg (by simpa using hj)]; exact h
theorem K_blkR (h : K .ret s) : blockK id K .ret s := h
/-- The heap behind number n may be dropped. -/
def Cut (b n : Nat) (s s' : St) : Prop := b ≤ n ∧ n ≤ s.h.length ∧ V.allL (fun i => decide (i < n)) s.t = true ∧ (∀ o ∈ s.h.take n, o.all (fun i => decide (i < n)) = true) ∧ s' = ⟨s.t, s.h.take n⟩
def loopK {α : Type} (b : Nat) (mask : List Bool) (f : α → St) (Inv : α → Prop) (μ : α → Nat) (a : α) (K : Exit → St → Prop) : Exit → St → Prop
  | .normal, s' => ∃ a', ((⟨forget mask s'.t, s'.h⟩ : St) = f a' ∨ ∃ n, Cut b n ⟨forget mask s'.t, s'.h⟩ (f a')) ∧ Inv a' ∧ μ a' < μ a
  | e, s' => K e s'
theorem K_lp {α : Type} {mask : List Bool} {f : α → St} {Inv : α → Prop} {μ : α → Nat} {a : α} (a' : α) (h1 : (⟨forget mask s.t, s.h⟩ : St) = f a') (h2 : Inv a' ∧ μ a' < μ a) : loopK b mask f Inv μ a K .normal s := ⟨a', .inl h1, h2⟩
theorem K_lpc {α : Type} {mask : List Bool} {f : α → St} {Inv : α → Prop} {μ : α → Nat} {a : α} (a' : α) (n : Nat) (h1 : b ≤ n) (h2 : n ≤ s.h.length) (h3 : V.allL (fun i => decide (i < n)) (forget mask s.t) = true) (h4 : (s.h.take n).all (fun o => o.all (fun i => decide (i < n))) = true) (h5 : (⟨forget mask s.t, s.h.take n⟩ : St) = f a') (h6 : Inv a' ∧ μ a' < μ a) : loopK b mask f Inv μ a K .normal s :=
  ⟨a', .inr ⟨n, h1, h2, h3, by simpa using h4, h5.symm⟩, h6⟩
theorem K_lpE {α : Type} {mask : List Bool} {f : α → St} {Inv : α → Prop} {μ : α → Nat} {a : α} {j : Nat} (h : K (.exit j) s) : loopK b mask f Inv μ a K (.exit j) s := h
theorem K_lpR {α : Type} {mask : List Bool} {f : α → St} {Inv : α → Prop} {μ : α → Nat} {a : α} (h : K .ret s) : loopK b mask f Inv μ a K .ret s := h
theorem T_lp {α : Type} (mask : List Bool) (f : α → St) (Inv : α → Prop) (μ : α → Nat) (a0 : α) (h0 : (⟨forget mask s.t, s.h⟩ : St) = f a0) (i0 : Inv a0)
    (round : ∀ a, Inv a → T P b ro x (f a) (loopK b mask f Inv μ a K)) : T P b ro (.loop x) s K := by
  refine T_forget mask ?_
  rw [h0]
  intro C E0 m a w hb L S fr k cs hro hfn hroom
  have key : ∀ (j : Nat) (aa : α) m a w, μ aa = j → Inv aa → LeN E0 (env C (f aa).h m w) → Sim C (f aa) m a w →
      ∃ e a' w', Post C E0 K e a' w' ∧ ArrivesIn (Machine.fenced P (FW ro)) P (lone (fr.atR a (.code x :: .inLoop x :: k)) cs w) fr k cs e a' w' := by
    intro j
    induction j using Nat.strongRecOn with
    | _ j ih =>
      intro aa m a w hn hI L S
      obtain ⟨e, a1, w1, ⟨s1, m1, hk, S1, L1⟩, harr⟩ := round aa hI C E0 m a w hb L S fr (.inLoop x :: k) cs hro hfn hroom
      cases e with
      | normal =>
        obtain ⟨aa', hf, hI1, hlt⟩ := hk
        have S2 : Sim C ⟨forget mask s1.t, s1.h⟩ m1 a1 w1 := ⟨S1.below, S1.out, S1.len, RelL.forget mask S1.slots, S1.defers, S1.objs, S1.apart, S1.low⟩
        have hS : ∃ m2, Sim C (f aa') m2 a1 w1 ∧ LeN E0 (env C (f aa').h m2 w1) := by
          rcases hf with hf | ⟨n, h1, h2, h3, h4, h5⟩
          · rw [← hf]; exact ⟨m1, S2, L1⟩
          · obtain ⟨S3, hL, _⟩ := S2.cut n h2 h3 h4
            rw [h5]
            exact ⟨_, S3, hL E0 (by omega) L1⟩
        obtain ⟨m2, S3, L3⟩ := hS
        obtain ⟨e2, a2, w2, hq2, harr2⟩ := ih (μ aa') (hn ▸ hlt) aa' m2 a1 w1 rfl hI1 L3 S3
        exact ⟨e2, a2, w2, hq2, .of_steps (StepsIn.trans harr (.one (fenced_calm hfn hroom rfl) stepR_inLoop)) harr2⟩
      | exit id => exact ⟨_, a1, w1, ⟨s1, m1, hk, S1, L1⟩, .pass (x := .inLoop x) rfl (fun _ _ => .inl (by simp)) harr⟩
      | goto l => exact ⟨_, a1, w1, ⟨s1, m1, hk, S1, L1⟩, .pass (x := .inLoop x) rfl (fun _ _ => .inl (by simp)) harr⟩
      | ret => exact ⟨_, a1, w1, ⟨s1, m1, hk, S1, L1⟩, .pass (x := .inLoop x) rfl (fun _ _ => .inl (by simp)) harr⟩
      | panic ch => exact ⟨_, a1, w1, ⟨s1, m1, hk, S1, L1⟩, .pass (x := .inLoop x) rfl (fun _ _ => .inl (by simp)) harr⟩
      | outgrown => exact ⟨_, a1, w1, ⟨s1, m1, hk, S1, L1⟩, .pass (x := .inLoop x) rfl (fun _ _ => .inl (by simp)) harr⟩
  obtain ⟨e, a', w', hq, harr⟩ := key _ a0 m a w rfl i0 L S
  exact ⟨e, a', w', hq, .of_steps (.one (fenced_calm hfn hroom rfl) stepR_loop) harr⟩
/-- Several ways in, one way on. -/
theorem T_mid (M : St → Prop) (h : T P b ro x s (fun e s' => match e with | .normal => M s' | e => K e s')) (k : ∀ s', M s' → T P b ro y s' K) : T P b ro (.seq x y) s K :=
  T_seq (h.mono fun e s' hk => by cases e <;> first | exact k _ hk | exact hk)
end
/-! ### the ends -/
def fin (P : Program) (fn : Func) (r : V) : Exit → St → Prop := fun x s => (match x with | .normal | .ret => True | _ => False) ∧ ∃ r0, resV P fn s = some r0 ∧ convT (fun _ => true) s.h r0 = some r
theorem Ret_fin {P : Program} {f : FuncId} {fn : Func} {c : Code} {args : List V} {r : V} (hf : P.funcs[f]? = some fn) (hb : fn.body = some c) (hT : T P 0 none c ⟨enter fn args, []⟩ (fin P fn r)) : Ret P f args r := Ret_intro hf hb hT
theorem fin_ret {P : Program} {fn : Func} {r r0 : V} {s : St} (h1 : resV P fn s = some r0) (h2 : convT (fun _ => true) s.h r0 = some r) : fin P fn r .ret s := ⟨trivial, r0, h1, h2⟩
theorem fin_normal {P : Program} {fn : Func} {r r0 : V} {s : St} (h1 : resV P fn s = some r0) (h2 : convT (fun _ => true) s.h r0 = some r) : fin P fn r .normal s := ⟨trivial, r0, h1, h2⟩
/-! ### lengths that fit -/
mutual
def V.fits : V → Prop
  | .sl _ rows => rows.length ≤ 9223372036854775807 ∧ V.fitsR rows
  | .agg cs | .tup cs | .ro cs => V.fitsL cs
  | _ => True
def V.fitsL : List V → Prop
  | [] => True
  | c :: cs => c.fits ∧ V.fitsL cs
def V.fitsR : List (List V) → Prop
  | [] => True
  | r :: rs => V.fitsL r ∧ V.fitsR rs
end
mutual
theorem Rel.fits {E : Env} : ∀ (x : V) (v : Value), Rel E x v → x.fits
  | .sl sz rows, v, h => by
    simp only [Rel, V.fits] at *
    obtain ⟨A, c, rfl, hl, hr⟩ := h
    refine ⟨hl.2, ?_⟩
    rcases hr with rfl | ⟨ad, _, _, _, hR⟩
    · simp only [V.fitsR]
    · exact RelRows.fits rows ad sz 0 hR
  | .agg cs, v, h | .tup cs, v, h => by
    simp only [Rel, V.fits] at *
    obtain ⟨vs, _, hR⟩ := h
    exact RelL.fits cs _ hR
  | .ro cs, v, h => by
    simp only [Rel, V.fits] at *
    obtain ⟨ad, _, _, _, hR⟩ := h
    exact RelCells.fits cs ad 0 hR
  | .bool _, _, _ | .int _ _, _, _ | .str _, _, _ | .nil, _, _ | .ptr _ _, _, _ | .nilptr, _, _ | .arr _ _, _, _ | .arrd _ _ _, _, _ | .qptr _ _ _ _, _, _ | .aptr _ _ _ _, _, _ | .fn _ _ _, _, _ | .yield _, _, _ | .nilfn, _, _ | .nilif, _, _ | .iface _ _, _, _ | .map _, _, _ | .undef, _, _ => by simp only [V.fits]
theorem RelL.fits {E : Env} : ∀ (xs : List V) (vs : List Value), RelL E xs vs → V.fitsL xs
  | [], _, _ => by simp only [V.fitsL]
  | c :: cs, vs, h => by
    simp only [RelL, V.fitsL] at *
    obtain ⟨u, us, _, h1, h2⟩ := h
    exact ⟨Rel.fits c u h1, RelL.fits cs us h2⟩
theorem RelCells.fits {E : Env} : ∀ (xs : List V) (ad : Addr) (k : Nat), RelCells E ad k xs → V.fitsL xs
  | [], _, _, _ => by simp only [V.fitsL]
  | c :: cs, ad, k, h => by
    simp only [RelCells, V.fitsL] at *
    obtain ⟨⟨u, _, h1⟩, h2⟩ := h
    exact ⟨Rel.fits c u h1, RelCells.fits cs ad (k + 1) h2⟩
theorem RelRows.fits {E : Env} : ∀ (rows : List (List V)) (ad : Addr) (sz k : Nat), RelRows E ad sz k rows → V.fitsR rows
  | [], _, _, _, _ => by simp only [V.fitsR]
  | r :: rs, ad, sz, k, h => by
    simp only [RelRows, V.fitsR] at *
    exact ⟨RelCells.fits r ad k h.2.1, RelRows.fits rs ad sz (k + sz) h.2.2⟩
end
/-- What is handed in fits. -/
theorem Ret.of_fits {P : Program} {f : FuncId} {args : List V} {r : V} (h : V.fitsL args → Ret P f args r) : Ret P f args r := fun bad w cargs hb hR => h (RelL.fits _ _ hR) bad w cargs hb hR
/-- A nil slice is as good as an empty one. -/
inductive Wk : V → V → Prop
  | refl (x : V) : Wk x x
  | nil (sz : Nat) : Wk .nil (.sl sz [])
inductive WkL : List V → List V → Prop
  | nil : WkL [] []
  | cons {x y : V} {xs ys : List V} (h : Wk x y) (k : WkL xs ys) : WkL (x :: xs) (y :: ys)
theorem Wk.rel {E : Env} {x y : V} (h : Wk x y) {v : Value} (hv : Rel E x v) : Rel E y v := by
  cases h with
  | refl => exact hv
  | nil sz => simp only [Rel] at *; exact ⟨none, 0, hv, by simp, .inl trivial⟩
theorem WkL.rel {E : Env} {xs ys : List V} (h : WkL xs ys) : ∀ {vs : List Value}, RelL E xs vs → RelL E ys vs := by
  induction h with
  | nil => exact fun h => h
  | cons h k ih =>
    intro vs hv
    simp only [RelL] at *
    obtain ⟨u, us, rfl, h1, h2⟩ := hv
    exact ⟨u, us, rfl, h.rel h1, ih h2⟩
theorem Ret.wk {P : Program} {f : FuncId} {args args' : List V} {r : V} (h : Ret P f args' r) (hw : WkL args args') : Ret P f args r := fun bad w cargs hb hR => h bad w cargs hb (hw.rel hR)
theorem wrap_succ {k : Nat} (h : k < 9223372036854775807) : IntKind.i64.wrap ((k : Int) + 1) = ((k + 1 : Nat) : Int) := by
  rw [IntKind.wrap_i64]; omega
theorem wrap_id {n : Int} (h1 : -9223372036854775808 ≤ n) (h2 : n < 9223372036854775808) : IntKind.i64.wrap n = n := by
  rw [IntKind.wrap_i64]; omega
/-! ### what a walk unfolds -/
attribute [go_sem] binN sliceD appendD lookupV updateH mapT keyI findM runV runQ wantedV opV optV ev evs evp ofValue ofCell ofCells puts enter loadV cellsAt cur V.one indexAddrV shiftV fieldV sliceV flat splice storeH fillV buildV litV chunk rep makeV srcRows appendV binInt binV isNilV intsK solidV lenV partV forget resV resL res1 conv convL convD convDL convT frz1 frzL frzD V.all V.allL V.allR AObj.all
end Go.Ab
