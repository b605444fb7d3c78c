import Derived.Test.YtahflobpopclpaaAb20
namespace Go.Ab
open Go Go.RowKit
set_option linter.unusedVariables false

/-! ### regions whose operations leave the heap alone, in whatever order -/
def quietOp : Op → Bool
  | .move _ | .assign _ | .pick _ _ _ | .build _ _ | .buildSlice _ _ _ | .load _ _ | .nilCheck _ | .binOp _ _ _ _ _ | .unOp _ _ _ | .makeFunc _ _ _ | .slice _ _ _ _ _ | .fieldAddr _ _ _ | .field _ _ _ | .indexAddr _ _ _ | .index _ _ _ | .extract _ _ => true
  | .call ⟨.builtin b, _, _⟩ => match b with
    | .len | .max | .min => true
    | _ => false
  | .call ⟨.value _, _, _⟩ => true
  | _ => false
theorem quietOp_cid {s : St} {op : Op} (h : quietOp op = true) : cidOf s op = none ∧ tame s op = true := by
  cases op with
  | call c =>
    obtain ⟨callee, args, ts⟩ := c
    cases callee with
    | builtin b => cases b <;> simp [quietOp] at h <;> exact ⟨rfl, rfl⟩
    | _ => exact ⟨rfl, rfl⟩
  | _ => first | exact ⟨rfl, rfl⟩ | simp [quietOp] at h
theorem seen_true {s : St} {op : Op} : seen (fun _ => true) s op = true := by
  have hA : seenA (fun _ => true) (ev s) op = true := by
    simp only [seenA, List.all_eq_true]
    intro x _
    cases ev s x with
    | none => rfl
    | some v => exact V.all_true v
  cases op with
  | nilCheck x | fieldAddr T x f =>
    simp only [seen, seenE]
    cases ev s x with
    | none => rfl
    | some v => cases v <;> first | rfl | exact V.all_true _
  | _ => first | rfl | exact hA
/-- Is the text's order good for all? -/
def quietB (ops : Array Oper) : Bool := ops.all (fun o => quietOp o.op) && lexD .any ops (fun _ => none) (fun _ _ => true) ops.size 0 (Array.replicate ops.size false)
inductive StepQ {P : Program} (F : Facts P) (ops : Array Oper) (i : Nat) (s : St) : List V → Prop
  | skip {o : Oper} (ho : ops[i]? = some o) (hw : wantedV ops s o = some false) : StepQ F ops i s (puts s.t o.dst (.tup []))
  | val {o : Oper} {v : V} {h' : List AObj} (ho : ops[i]? = some o) (hw : wantedV ops s o = some true) (hop : opV F s o.op = some (some v, h')) : StepQ F ops i s (puts s.t o.dst v)
  | call {o : Oper} {x : Operand} {args : Array Operand} {ts : Array TypeId} {g : FuncId} {first caps vs dargs : List V} {r : V} (ho : ops[i]? = some o) (hw : wantedV ops s o = some true)
      (hop : o.op = .call ⟨.value x, args, ts⟩) (hx : ev s x = some (.fn g first caps)) (ha : evs s args.toList = some vs) (hb : ∃ fn, P.funcs[g]? = some fn ∧ fn.body.isSome = true ∧ (fn.name == "runtime.NumGoroutine") = false)
      (hc : convDL (fun b => b) s.h (first ++ vs ++ caps) = some dargs) (hr : Ret P g dargs r) : StepQ F ops i s (puts s.t o.dst r)
theorem store_some {P : Program} {F : Facts P} {s : St} {op : Op} {v : V} {h' : List AObj} (h : opV F s op = some (some v, h')) (hq : quietOp op = true) : h' = s.h := by
  obtain ⟨eff, rfl, hd, _⟩ := opV_local (p := fun _ => true) seen_true (quietOp_cid (s := s) hq).2 h
  cases eff with
  | none => rfl
  | set a o => have := hd.2.2; rw [(quietOp_cid (s := s) hq).1] at this; cases this
  | push o => have : cidOf s op = _ := hd; rw [(quietOp_cid (s := s) hq).1] at this; cases this
theorem StepQ.local {P : Program} {F : Facts P} {ops : Array Oper} {i : Nat} {s : St} {t' : List V} (h : StepQ F ops i s t') (hq : ∀ o, ops[i]? = some o → quietOp o.op = true) :
    ∃ o v, ops[i]? = some o ∧ t' = puts s.t o.dst v ∧ Local F ops (fun _ => true) i o s v .none := by
  cases h with
  | @skip o ho hw => exact ⟨o, _, ho, rfl, fun s2 _ h2 _ _ => .skip ho (h2.trans hw), fun _ _ he => by cases he⟩
  | @val o v h' ho hw hop =>
    have hh := store_some hop (hq o ho)
    obtain ⟨eff, he, hd, hloc⟩ := opV_local (p := fun _ => true) seen_true (quietOp_cid (s := s) (hq o ho)).2 hop
    have : eff = .none := by
      cases eff with
      | none => rfl
      | set a o => have := hd.2.2; rw [(quietOp_cid (s := s) (hq _ ho)).1] at this; cases this
      | push o' => have : cidOf s o.op = _ := hd; rw [(quietOp_cid (s := s) (hq _ ho)).1] at this; cases this
    subst this
    exact ⟨o, v, ho, rfl, fun s2 h1 h2 h3 _ => .val ho (h2.trans hw) (hloc s2 h1 h3 (fun g => by cases g)), fun _ _ he => by cases he⟩
  | @call o x args ts g first caps vs dargs r ho hw hop hx ha hb hc hr =>
    refine ⟨o, r, ho, rfl, fun s2 h1 h2 h3 _ => ?_, fun _ _ he => by cases he⟩
    have hops : ∀ y ∈ #[x] ++ args, ev s2 y = ev s y := fun y hy => h1 y (by rw [hop]; exact hy)
    have hc2 : convDL (fun b => b) s2.h (first ++ vs ++ caps) = some dargs := by
      rw [convDL_local (p := fun _ => true) h3 (V.allL_true _)]; exact hc
    refine .call ho (h2.trans hw) hop ((hops x (by simp)).trans hx) ((evs_congr (fun y hy => hops y (by simp at hy ⊢; exact .inr hy))).trans ha) hb ?_
    have := Ret.shared hr rfl (h := s2.h) (args := first ++ vs ++ caps) (by rw [frzD_of_conv hc2]; exact hc2)
    rw [frzD_of_conv hc2] at this
    exact this
/-- The walk. -/
def RegQ {P : Program} (F : Facts P) (ops : Array Oper) (K : St → Prop) : List Nat → St → Prop
  | [], s => K s
  | i :: l, s => ∃ t', StepQ F ops i s t' ∧ RegQ F ops K l ⟨t', s.h⟩
theorem RegQ.regD {P : Program} {F : Facts P} {ops : Array Oper} {K : St → Prop} (hq : ∀ (i : Nat) (o : Oper), ops[i]? = some o → quietOp o.op = true) : ∀ (n k : Nat) {s : St}, RegQ F ops K (List.range' k n) s → RegD F ops (fun _ => none) (fun _ _ => true) K n k s
  | 0, k, s, h => h
  | n + 1, k, s, h => by
    obtain ⟨t', hs, hk⟩ := h
    obtain ⟨o, v, ho, rfl, hL⟩ := hs.local (hq k)
    exact ⟨o, v, .none, ho, hL, trivial, RegQ.regD hq n (k + 1) hk⟩
/-- As far as it goes without a call. -/
def runQ {P : Program} (F : Facts P) (ops : Array Oper) : List Nat → St → Option (St × List Nat)
  | [], s => some (s, [])
  | i :: l, s => match ops[i]? with
    | none => none
    | some o => match wantedV ops s o with
      | none => none
      | some false => runQ F ops l ⟨puts s.t o.dst (.tup []), s.h⟩
      | some true => match opV F s o.op with
        | some (some v, h') => runQ F ops l ⟨puts s.t o.dst v, s.h⟩
        | _ => some (s, i :: l)
theorem RegQ.of_runQ {P : Program} {F : Facts P} {ops : Array Oper} {K : St → Prop} : ∀ {l : List Nat} {s s1 : St} {l1 : List Nat}, runQ F ops l s = some (s1, l1) → RegQ F ops K l1 s1 → RegQ F ops K l s
  | [], s, s1, l1, h, k => by
    simp only [runQ, Option.some.injEq, Prod.mk.injEq] at h
    obtain ⟨rfl, rfl⟩ := h
    exact k
  | i :: l, s, s1, l1, h, k => by
    simp only [runQ] at h
    split at h
    · cases h
    · rename_i o ho
      split at h
      · cases h
      · rename_i hw
        exact ⟨_, .skip ho hw, RegQ.of_runQ h k⟩
      · rename_i hw
        split at h
        · rename_i v h' hop
          exact ⟨_, .val ho hw hop, RegQ.of_runQ h k⟩
        · simp only [Option.some.injEq, Prod.mk.injEq] at h
          obtain ⟨rfl, rfl⟩ := h
          exact k
def RegQC {P : Program} (F : Facts P) (ops : Array Oper) (K : St → Prop) (l : List Nat) (s : St) : Prop :=
  match runQ F ops l s with
  | some (s1, []) => K s1
  | some (s1, l1) => RegQ F ops K l1 s1
  | none => False
theorem RegQC.q {P : Program} {F : Facts P} {ops : Array Oper} {K : St → Prop} {l : List Nat} {s : St} (h : RegQC F ops K l s) : RegQ F ops K l s := by
  unfold RegQC at h
  split at h
  · rename_i s1 hr
    exact RegQ.of_runQ hr h
  · rename_i s1 l1 _ hr
    exact RegQ.of_runQ hr h
  · exact h.elim
theorem T_regQ {P : Program} {b : Nat} {ro : Option Nat} {s : St} {K : Exit → St → Prop} {id : Nat} {ops : Array Oper} (F : Facts P) (hB : quietB ops = true) (h : RegQC F ops (K .normal) (List.range ops.size) s) : T P b ro (.region id ops true) s K := by
  simp only [quietB, Bool.and_eq_true] at hB
  have hq : ∀ (i : Nat) (o : Oper), ops[i]? = some o → quietOp o.op = true := fun i o ho => by
    have := hB.1
    rw [Array.all_eq_true_iff_forall_mem] at this
    exact this o (Array.mem_of_getElem? ho)
  refine T_regionD (F := F) hB.2 ?_
  exact RegQ.regD hq _ 0 (by rw [← List.range_eq_range']; exact h.q)
end Go.Ab
