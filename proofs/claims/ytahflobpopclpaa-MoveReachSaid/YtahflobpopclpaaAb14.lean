import Derived.Test.YtahflobpopclpaaAb13
import Derived.RangeFuncRecord
namespace Go.Ab
open Go Go.RowKit
set_option linter.unusedVariables false

def puts (t : List V) (d : Option Tmp) (x : V) : List V :=
  match d with
  | some d => t.set d x
  | none => t
theorem Sim.puts {C : Ctx} {s : St} {m : List Value} {a : Act} {w : World} (S : Sim C s m a w) (d : Option Tmp) {x : V} {u : Value} (h : Rel (env C s.h m w) x u) : Sim C ⟨Ab.puts s.t d x, s.h⟩ m (a.put d u) w := by
  have := S.put d h
  cases d <;> exact this
theorem rel_undef {E : Env} : Rel E (.tup []) undef := by
  simp only [Rel, RelL, undef]
  exact ⟨#[], rfl, rfl⟩
/-- Calling function g with these values: it hands back r, and the heap is h' then. -/
def RetS (P : Program) (g : FuncId) (args : List V) (h : List AObj) (r : V) (h' : List AObj) : Prop :=
  ∀ (C : Ctx) (t : List V) (m : List Value) (a : Act) (w : World) (cargs : Array Value), Sim C ⟨t, h⟩ m a w → RelL (env C h m w) args cargs.toList →
    Calls P g cargs w fun e w' => ∃ v m', e = .returned v ∧ Sim C ⟨t, h'⟩ m' a w' ∧ Rel (env C h' m' w') r v ∧ LeN (env C h m w) (env C h' m' w')
def FW (ro : Option Nat) : Fence := { Fence.wide with round := ro }
/-- Calling the yield of the loop that the heap holds at i: one round of it. -/
def RetY (P : Program) (i : Nat) (args : List V) (h : List AObj) (r : V) (h' : List AObj) : Prop :=
  ∀ (C : Ctx) (t : List V) (m : List Value) (a : Act) (w : World) (cargs : Array Value) (ro : Option Nat) (b : Nat), Sim C ⟨t, h⟩ m a w → RelL (env C h m w) args cargs.toList → m[i]? = some (.func (.yield b) #[] #[]) →
    ∃ fn tmps as bd, (Instr.yield b cargs).run P w = .ok (.round b fn tmps as bd) w ∧
      RoundIn (FW ro) 0 P b fn tmps as bd w fun e w' => ∃ v m', e = .returned v ∧ Sim C ⟨t, h'⟩ m' a w' ∧ Rel (env C h' m' w') r v ∧ LeN (env C h m w) (env C h' m' w')
/-- Is the operation carried out? -/
def wantedV (ops : Array Oper) (s : St) (o : Oper) : Option Bool :=
  match o.guard with
  | none => some true
  | some (j, want) => match (ops[j]?).bind (·.dst) with
    | some d => match s.t[d]? with
      | some (.bool b) => some (b == want)
      | some (.tup _) => some false
      | _ => none
    | none => none
theorem wantedV_sound {C : Ctx} {s : St} {m : List Value} {a : Act} {w : World} (S : Sim C s m a w) {ops : Array Oper} {o : Oper} {b : Bool} (h : wantedV ops s o = some b) : Region.wanted o (yielded ops a.tmps) = b := by
  unfold wantedV at h
  unfold Region.wanted yielded
  split at h
  · rename_i hg
    simp only [Option.some.injEq] at h
    simp [hg, h]
  · rename_i j want hg
    simp only [hg]
    split at h
    · rename_i d hd
      simp only [hd]
      split at h
      · rename_i b0 ht
        simp only [Option.some.injEq] at h
        obtain ⟨u, hu, hr⟩ := RelL.get d S.slots ht
        simp only [Rel] at hr; subst hr
        simp at hu
        simp [hu, ← h]
      · rename_i cs ht
        simp only [Option.some.injEq] at h
        obtain ⟨u, hu, hr⟩ := RelL.get d S.slots ht
        simp only [Rel] at hr
        obtain ⟨vs, rfl, _⟩ := hr
        simp at hu
        simp [hu, ← h]
      · cases h
    · cases h
/-- One operation of a region. -/
inductive StepR {P : Program} (F : Facts P) (ops : Array Oper) (i : Nat) (s : St) : St → Prop
  | skip {o : Oper} (ho : ops[i]? = some o) (hw : wantedV ops s o = some false) : StepR F ops i s ⟨puts s.t o.dst (.tup []), s.h⟩
  | val {o : Oper} {v : V} {h' : List AObj} (ho : ops[i]? = some o) (hw : wantedV ops s o = some true) (hop : opV F s o.op = some (some v, h')) : StepR F ops i s ⟨puts s.t o.dst v, h'⟩
  | eff {o : Oper} {h' : List AObj} (ho : ops[i]? = some o) (hw : wantedV ops s o = some true) (hop : opV F s o.op = some (none, h')) : StepR F ops i s ⟨puts s.t o.dst (.tup []), h'⟩
  | call {o : Oper} {x : Operand} {args : Array Operand} {ts : Array TypeId} {g : FuncId} {first caps vs : List V} {r : V} {h' : List AObj} (ho : ops[i]? = some o) (hw : wantedV ops s o = some true)
      (hop : o.op = .call ⟨.value x, args, ts⟩) (hx : ev s x = some (.fn g first caps)) (ha : evs s args.toList = some vs) (hb : ∃ fn, P.funcs[g]? = some fn ∧ fn.body.isSome = true ∧ (fn.name == "runtime.NumGoroutine") = false)
      (hr : RetS P g (first ++ vs ++ caps) s.h r h') : StepR F ops i s ⟨puts s.t o.dst r, h'⟩
  | yld {o : Oper} {x : Operand} {args : Array Operand} {ts : Array TypeId} {j : Nat} {vs : List V} {r : V} {h' : List AObj} (ho : ops[i]? = some o) (hw : wantedV ops s o = some true)
      (hop : o.op = .call ⟨.value x, args, ts⟩) (hx : ev s x = some (.yield j)) (ha : evs s args.toList = some vs) (hr : RetY P j vs s.h r h') : StepR F ops i s ⟨puts s.t o.dst r, h'⟩
theorem Calls.inFW {P : Program} {f : FuncId} {args : Array Value} {w : World} {R : Ending → World → Prop} (ro : Option Nat) (n : Nat) (h : Calls P f args w R) : CallsIn (FW ro) n P f args w R := by
  have h' := (callsIn_wide (n := n)).2 h
  exact h'
theorem Up.leN {E E' : Env} (h : Up E E') : LeN E E' := LeN.of h.1 h.2
/-- One operation, carried out on the machine. -/
theorem StepR.sound {P : Program} {F : Facts P} {ops : Array Oper} {i : Nat} {s s' : St} (h : StepR F ops i s s') (ro : Option Nat) {C : Ctx} {m : List Value} {a : Act} {w : World} (S : Sim C s m a w) {l : List Nat} {Q : Exit → Act → World → Prop}
    (k : ∀ m' a' w', Sim C s' m' a' w' → LeN (env C s.h m w) (env C s'.h m' w') → wpOpsIn (FW ro) 0 P ops Q l a' w') : wpOpsIn (FW ro) 0 P ops Q (i :: l) a w := by
  unfold wpOpsIn
  cases h with
  | skip ho hw =>
    simp only [ho, wantedV_sound S hw, Bool.false_eq_true, if_false]
    exact ⟨fun _ _ => trivial, k m _ w (S.puts _ rel_undef) (LeN.refl _)⟩
  | @val o v h' ho hw hop =>
    simp only [ho, wantedV_sound S hw, if_true]
    obtain ⟨m', w', S', hU, u, hrun, hR⟩ := opV_sound F S o hop
    refine ⟨fun _ _ => trivial, ?_⟩
    rw [Oper.semAt_eq _ _ _ (fun c hc => by simp [hc, opV] at hop), hrun]
    exact k m' _ w' (S'.puts _ hR) hU.leN
  | @eff o h' ho hw hop =>
    simp only [ho, wantedV_sound S hw, if_true]
    obtain ⟨m', w', S', hU, hrun⟩ := opV_sound F S o hop
    refine ⟨fun _ _ => trivial, ?_⟩
    rw [Oper.semAt_eq _ _ _ (fun c hc => by simp [hc, opV] at hop), hrun]
    exact k m' _ w' (S'.puts _ rel_undef) hU.leN
  | @call o x args ts g first caps vs r h' ho hw hop hx ha hb hr =>
    simp only [ho, wantedV_sound S hw, if_true]
    refine ⟨fun _ _ => trivial, ?_⟩
    rw [Oper.semAt_eq _ _ _ (fun c hc => by simp [hc] at hop)]
    have hRx := ev_sound S hx
    simp only [Rel] at hRx
    obtain ⟨fa, ca, he, h1, h2⟩ := hRx
    have hRa := evs_sound S ha
    obtain ⟨fn, hfn, hbody, hname⟩ := hb
    have hnb : ¬ fn.body = none := fun e => by simp [e] at hbody
    have hne : ¬ fn.name = "runtime.NumGoroutine" := by simpa using hname
    have hcf : ∀ cargs, (callFunc g cargs).run P w = .ok (.enter g cargs) w := fun cargs => by
      simp [callFunc, hfn, hne, hnb]
    have hrun : (execOp a.eval o).run P w = .ok (.enter g (fa ++ args.map a.eval ++ ca)) w := by
      simp [execOp, hop, resolve, he, Deferred.ofValue, invoke, hcf]
    rw [hrun]
    refine ⟨fun h => by simp [FW, Fence.wide] at h, Calls.inFW ro _ ?_⟩
    have hargs : RelL (env C s.h m w) (first ++ vs ++ caps) (fa ++ args.map a.eval ++ ca).toList := by
      simp only [Array.toList_append, Array.toList_map]
      exact (h1.append hRa).append h2
    refine Calls.mono (hr C s.t m a w _ S hargs) ?_
    rintro e w' ⟨v, m', rfl, S', hR, hL⟩
    exact k m' _ w' (S'.puts _ hR) hL
  | @yld o x args ts j vs r h' ho hw hop hx ha hr =>
    simp only [ho, wantedV_sound S hw, if_true]
    refine ⟨fun _ _ => trivial, ?_⟩
    rw [Oper.semAt_eq _ _ _ (fun c hc => by simp [hc] at hop)]
    have hRx := ev_sound S hx
    simp only [Rel] at hRx
    obtain ⟨b, hm, he⟩ := hRx
    obtain ⟨fn, tmps, as, bd, hy, hround⟩ := hr C s.t m a w (args.map a.eval) ro b S (by simpa using evs_sound S ha) hm
    have hrun : (execOp a.eval o).run P w = .ok (.round b fn tmps as bd) w := by
      simp [execOp, hop, resolve, he, Deferred.ofValue, invoke, hy]
    rw [hrun]
    refine ⟨fun h => by simp [FW, Fence.wide] at h, hround.mono ?_⟩
    rintro e w' ⟨v, m', rfl, S', hR, hL⟩
    exact k m' _ w' (S'.puts _ hR) hL
/-- Several operations, one behind the other. -/
inductive RunR {P : Program} (F : Facts P) (ops : Array Oper) : List Nat → St → St → Prop
  | nil {s : St} : RunR F ops [] s s
  | cons {i : Nat} {l : List Nat} {s s1 s2 : St} (h : StepR F ops i s s1) (k : RunR F ops l s1 s2) : RunR F ops (i :: l) s s2
theorem RunR.sound {P : Program} {F : Facts P} {ops : Array Oper} {l : List Nat} {s s' : St} (h : RunR F ops l s s') (ro : Option Nat) : ∀ {C : Ctx} {m : List Value} {a : Act} {w : World} (S : Sim C s m a w) {Q : Exit → Act → World → Prop}
    (k : ∀ m' a' w', Sim C s' m' a' w' → LeN (env C s.h m w) (env C s'.h m' w') → Q .normal a' w'), wpOpsIn (FW ro) 0 P ops Q l a w := by
  induction h with
  | nil =>
    intro C m a w S Q k
    unfold wpOpsIn
    exact k m a w S (LeN.refl _)
  | cons h1 h2 ih =>
    intro C m a w S Q k
    exact h1.sound ro S (fun m1 a1 w1 S1 L1 => ih S1 (fun m2 a2 w2 S2 L2 => k m2 a2 w2 S2 (L1.trans L2)))
/-! ### the judgement -/
def Post (C : Ctx) (E0 : Env) (K : Exit → St → Prop) (x : Exit) (a : Act) (w : World) : Prop := ∃ s m, K x s ∧ Sim C s m a w ∧ LeN E0 (env C s.h m w)
/-- The code c, begun in s, ends as K says; what has less than b as its number lives on. -/
def T (P : Program) (b : Nat) (ro : Option Nat) (c : Code) (s : St) (K : Exit → St → Prop) : Prop :=
  ∀ (C : Ctx) (E0 : Env) (m : List Value) (a : Act) (w : World), E0.h.length = b → LeN E0 (env C s.h m w) → Sim C s m a w → c.wpIn (FW ro) 0 P (Post C E0 K) a w
section rules
variable {P : Program} {b : Nat} {ro : Option Nat} {s : St} {K : Exit → St → Prop}
theorem T.mono {c : Code} {K' : Exit → St → Prop} (h : T P b ro c s K) (k : ∀ x s, K x s → K' x s) : T P b ro c s K' :=
  fun C E0 m a w hb L S => wpIn_mono (h C E0 m a w hb L S) (fun x a' w' ⟨s', m', hk, S', L'⟩ => ⟨s', m', k _ _ hk, S', L'⟩)
theorem T_skip (h : K .normal s) : T P b ro .skip s K := fun C E0 m a w hb L S => wpIn_skip ⟨s, m, h, S, L⟩
theorem T_exit {id : Nat} (h : K (.exit id) s) : T P b ro (.exit id) s K := fun C E0 m a w hb L S => wpIn_exit ⟨s, m, h, S, L⟩
theorem T_ret (h : K .ret s) : T P b ro .ret s K := fun C E0 m a w hb L S => wpIn_ret ⟨s, m, h, S, L⟩
def seqK (P : Program) (b : Nat) (ro : Option Nat) (y : Code) (K : Exit → St → Prop) : Exit → St → Prop
  | .normal, s => T P b ro y s K
  | x, s => K x s
theorem T_seq {x y : Code} (h : T P b ro x s (seqK P b ro y K)) : T P b ro (.seq x y) s K := fun C E0 m a w hb L S => by
  refine wpIn_seq (wpIn_mono (h C E0 m a w hb L S) ?_)
  rintro e a' w' ⟨s', m', hk, S', L'⟩
  cases e with
  | normal => exact hk C E0 m' a' w' hb L' S'
  | _ => exact ⟨s', m', hk, S', L'⟩
theorem T_cond {c : Operand} {x y : Code} {t : Bool} (hc : ev s c = some (.bool t)) (h : if t = true then T P b ro x s K else T P b ro y s K) : T P b ro (.cond c x y) s K := fun C E0 m a w hb L S => by
  have := ev_sound S hc
  simp only [Rel] at this
  refine wpIn_cond this ?_
  cases t
  · exact h C E0 m a w hb L S
  · exact h C E0 m a w hb L S
def blockK (id : Nat) (K : Exit → St → Prop) : Exit → St → Prop
  | .exit j, s => if j = id then K .normal s else K (.exit j) s
  | x, s => K x s
theorem T_block {id : Nat} {c : Code} (h : T P b ro c s (blockK id K)) : T P b ro (.block id c) s K := fun C E0 m a w hb L S => by
  refine wpIn_block (wpIn_mono (h C E0 m a w hb L S) ?_)
  rintro e a' w' ⟨s', m', hk, S', L'⟩
  cases e with
  | exit j =>
    simp only [blockK] at hk
    simp only [Exit.inBlock]
    split
    · rename_i hj; rw [if_pos hj] at hk; exact ⟨s', m', hk, S', L'⟩
    · rename_i hj; rw [if_neg hj] at hk; exact ⟨s', m', hk, S', L'⟩
  | _ => exact ⟨s', m', hk, S', L'⟩
theorem T_region {id : Nat} {ops : Array Oper} {s' : St} {F : Facts P} (h : RunR F ops (List.range ops.size) s s') (k : K .normal s') : T P b ro (.region id ops false) s K := fun C E0 m a w hb L S =>
  wpIn_region (h.sound ro S (fun m' a' w' S' L' => ⟨s', m', k, S', L.trans L'⟩))
theorem T_loop {c : Code} (I : St → Prop) (μ : St → Nat) (h0 : I s) (round : ∀ s, I s → T P b ro c s (fun x s' => match x with | .normal => I s' ∧ μ s' < μ s | x => K x s')) : T P b ro (.loop c) s K := by
  intro C E0 m a w hb L S fr k cs hro hfn hroom
  have key : ∀ (j : Nat) s m a w, μ s = j → I s → LeN E0 (env C s.h m w) → Sim C s m a w →
      ∃ e a' w', Post C E0 K e a' w' ∧ ArrivesIn (Machine.fenced P (FW ro)) P (lone (fr.atR a (.code c :: .inLoop c :: k)) cs w) fr k cs e a' w' := by
    intro j
    induction j using Nat.strongRecOn with
    | _ j ih =>
      intro s m a w hn hI L S
      obtain ⟨e, a1, w1, ⟨s1, m1, hk, S1, L1⟩, harr⟩ := round s hI C E0 m a w hb L S fr (.inLoop c :: k) cs hro hfn hroom
      cases e with
      | normal =>
        obtain ⟨hI1, hlt⟩ := hk
        obtain ⟨e2, a2, w2, hq2, harr2⟩ := ih (μ s1) (hn ▸ hlt) s1 m1 a1 w1 rfl hI1 L1 S1
        exact ⟨e2, a2, w2, hq2, .of_steps (StepsIn.trans harr (.one (fenced_calm hfn hroom rfl) stepR_inLoop)) harr2⟩
      | exit id => exact ⟨_, a1, w1, ⟨s1, m1, hk, S1, L1⟩, .pass (x := .inLoop c) rfl (fun _ _ => .inl (by simp)) harr⟩
      | goto l => exact ⟨_, a1, w1, ⟨s1, m1, hk, S1, L1⟩, .pass (x := .inLoop c) rfl (fun _ _ => .inl (by simp)) harr⟩
      | ret => exact ⟨_, a1, w1, ⟨s1, m1, hk, S1, L1⟩, .pass (x := .inLoop c) rfl (fun _ _ => .inl (by simp)) harr⟩
      | panic ch => exact ⟨_, a1, w1, ⟨s1, m1, hk, S1, L1⟩, .pass (x := .inLoop c) rfl (fun _ _ => .inl (by simp)) harr⟩
      | outgrown => exact ⟨_, a1, w1, ⟨s1, m1, hk, S1, L1⟩, .pass (x := .inLoop c) rfl (fun _ _ => .inl (by simp)) harr⟩
  obtain ⟨e, a', w', hq, harr⟩ := key _ s m a w rfl h0 L S
  exact ⟨e, a', w', hq, .of_steps (.one (fenced_calm hfn hroom rfl) stepR_loop) harr⟩
/-! ### forgetting -/
/-- Slots may be forgotten. -/
def forget : List Bool → List V → List V
  | [], t => t
  | true :: bs, x :: t => x :: forget bs t
  | false :: bs, x :: t => .undef :: forget bs t
  | _ :: _, [] => []
theorem RelL.forget {E : Env} : ∀ (bs : List Bool) {t : List V} {us : List Value}, RelL E t us → RelL E (forget bs t) us
  | [], t, us, h => by simpa only [Ab.forget] using h
  | true :: bs, [], us, h => by simpa only [Ab.forget] using h
  | false :: bs, [], us, h => by simpa only [Ab.forget] using h
  | true :: bs, x :: t, us, h => by
    simp only [RelL, Ab.forget] at *
    obtain ⟨u, us', rfl, h1, h2⟩ := h
    exact ⟨u, us', rfl, h1, RelL.forget bs h2⟩
  | false :: bs, x :: t, us, h => by
    simp only [RelL, Ab.forget] at *
    obtain ⟨u, us', rfl, h1, h2⟩ := h
    exact ⟨u, us', rfl, by simp only [Rel], RelL.forget bs h2⟩
theorem T_forget {c : Code} (bs : List Bool) (h : T P b ro c ⟨forget bs s.t, s.h⟩ K) : T P b ro c s K := fun C E0 m a w hb L S =>
  h C E0 m a w hb L ⟨S.below, S.out, S.len, RelL.forget bs S.slots, S.defers, S.objs, S.apart, S.low⟩
def AObj.all (p : Nat → Bool) : AObj → Bool
  | .box _ cs => V.allL p cs
  | .arr _ _ rows _ => V.allL p rows.flatten
  | .map es => V.allL p (es.map (·.1)) && V.allL p (es.map (·.2))
  | .que _ _ rows => V.allL p rows.flatten
  | .loop _ _ t _ _ _ => V.allL p t
  | .dead => true
theorem V.allL_append {p : Nat → Bool} : ∀ (xs ys : List V), V.allL p (xs ++ ys) = (V.allL p xs && V.allL p ys)
  | [], ys => by simp [V.allL]
  | c :: cs, ys => by simp [V.allL, V.allL_append cs ys, Bool.and_assoc]
theorem V.allL_drop {p : Nat → Bool} {xs : List V} (k : Nat) (h : V.allL p xs = true) : V.allL p (xs.drop k) = true := by
  have := V.allL_append (p := p) (xs.take k) (xs.drop k)
  rw [List.take_append_drop, h] at this
  simp only [Bool.true_eq, Bool.and_eq_true] at this
  exact this.2
theorem V.allL_flatten_drop {p : Nat → Bool} : ∀ (rows : List (List V)) (k : Nat), V.allL p rows.flatten = true → V.allL p (rows.drop k).flatten = true
  | rows, 0, h => h
  | [], k + 1, h => by simpa using h
  | r :: rows, k + 1, h => by
    simp only [List.flatten_cons, V.allL_append, Bool.and_eq_true] at h
    exact V.allL_flatten_drop rows k h.2
theorem RelObj.monoC {C : Ctx} {E E' : Env} {v : Value} {o : AObj} {p : Nat → Bool} (L : Env.LeC p E E') (hp : o.all p = true) (hb : ∀ b, blk v = some b → E'.w.heap[b]? = E.w.heap[b]?) (h : RelObj C E v o) : RelObj C E' v o := by
  cases o with
  | box T cs =>
    obtain ⟨b, vs, rfl, h1, h2, h3⟩ := h
    exact ⟨b, vs, rfl, h1, (hb b rfl).trans h2, RelL.monoC L _ _ hp h3⟩
  | arr T sz rows fr =>
    obtain ⟨us, ⟨h0, h1⟩, h2, h3⟩ := h
    refine ⟨us, ⟨h0, ?_⟩, RelL.monoC L _ _ hp h2, h3⟩
    rcases h1 with h1 | ⟨g, cap, cur, rfl, hg, hh, hr⟩
    · exact .inl h1
    · exact .inr ⟨g, cap, cur, rfl, hg, (hb g rfl).trans hh, hr⟩
  | map es =>
    simp only [AObj.all, Bool.and_eq_true] at hp
    obtain ⟨b, clock, es', rfl, h1, h2, h3, h4⟩ := h
    exact ⟨b, clock, es', rfl, h1, (hb b rfl).trans h2, RelL.monoC L _ _ hp.1 h3, RelL.monoC L _ _ hp.2 h4⟩
  | que T sz rows =>
    obtain ⟨us, j, hj, ⟨h0, h1⟩, h2, h3⟩ := h
    refine ⟨us, j, hj, ⟨h0, ?_⟩, RelL.monoC L _ _ (V.allL_flatten_drop rows j hp) h2, h3⟩
    rcases h1 with h1 | ⟨g, cap, cur, rfl, hg, hh, hr⟩
    · exact .inl h1
    · exact .inr ⟨g, cap, cur, rfl, hg, (hb g rfl).trans hh, hr⟩
  | loop st pe t ps as bd =>
    obtain ⟨b, fn, us, df, rfl, h1, h2, h3⟩ := h
    exact ⟨b, fn, us, df, rfl, h1, (hb b rfl).trans h2, RelL.monoC L _ _ hp h3⟩
  | dead => trivial
theorem RelObj.mono {C : Ctx} {E E' : Env} {v : Value} {o : AObj} {p : Nat → Bool} (L : Env.Le p E E') (hp : o.all p = true) (hb : ∀ b, blk v = some b → E'.w.heap[b]? = E.w.heap[b]?) (h : RelObj C E v o) : RelObj C E' v o := RelObj.monoC L.c hp hb h
/-- Objects from number n on may be forgotten where nothing leads to them any more. -/
theorem Sim.cut {C : Ctx} {s : St} {m : List Value} {a : Act} {w : World} (S : Sim C s m a w) (n : Nat) (hn : n ≤ s.h.length) (ht : V.allL (fun i => decide (i < n)) s.t = true) (hh : ∀ o ∈ s.h.take n, o.all (fun i => decide (i < n)) = true) :
    Sim C ⟨s.t, s.h.take n⟩ (m.take n) a w ∧ (∀ E0 : Env, E0.h.length ≤ n → LeN E0 (env C s.h m w) → LeN E0 (env C (s.h.take n) (m.take n) w)) ∧ Env.Le (fun i => decide (i < n)) (env C s.h m w) (env C (s.h.take n) (m.take n) w) := by
  have hl := S.len
  have L : Env.Le (fun i => decide (i < n)) (env C s.h m w) (env C (s.h.take n) (m.take n) w) := by
    refine ⟨fun b hb h => ?_, fun _ _ _ => rfl, Nat.le_refl _, fun i hi v hv _ => ?_, fun i hi hlt => ?_, fun i hi T sz rows ho => ?_⟩
    · rcases h with h | ⟨i, o, v, h1, h2, h3, h4⟩
      · exact .inl h
      · rw [List.getElem?_take] at h1 h3
        split at h1
        · rename_i hin
          rw [if_pos hin] at h3
          exact .inr ⟨i, o, v, h1, h2, h3, h4⟩
        · cases h1
    · simp only [env] at *
      rw [List.getElem?_take, if_pos (by simpa using hi)]; exact hv
    · have hin : i < n := by simpa using hi
      simp only [env] at *
      refine ⟨by simp; omega, fun T sz rows fr ho => ?_⟩
      rw [List.getElem?_take, if_pos hin] at ho
      exact ⟨T, rows, fr, ho, Nat.le_refl _, fun _ => by rw [List.getElem?_take, if_pos hin]⟩
    · have hin : i < n := by simpa using hi
      simp only [env] at *
      exact ⟨rows, by rw [List.getElem?_take, if_pos hin]; exact ho, Nat.le_refl _, fun _ => by rw [List.getElem?_take, if_pos hin]⟩
  refine ⟨⟨S.below, S.out, by simp; omega, RelL.mono L _ _ ht S.slots, S.defers.le L, fun i o v ho hv => ?_, fun i j v u b hij hv hu => ?_, fun i v b hv => ?_⟩, fun E0 h0 hL => ⟨by simp [env]; omega, ?_⟩, L⟩
  · have ho' := ho
    rw [List.getElem?_take] at ho hv
    split at ho
    · rename_i hin
      rw [if_pos hin] at hv
      exact RelObj.mono L (hh o (List.mem_of_getElem? ho')) (fun _ _ => rfl) (S.objs i o v ho hv)
    · cases ho
  · rw [List.getElem?_take] at hv hu
    split at hv
    · split at hu
      · exact S.apart i j v u b hij hv hu
      · cases hu
    · cases hv
  · rw [List.getElem?_take] at hv
    split at hv
    · exact S.low i v b hv
    · cases hv
  · exact hL.le.trans (L.weaken (fun i hi => by simp at *; omega))
theorem T_cut {c : Code} (n : Nat) (hb : b ≤ n) (hn : n ≤ s.h.length) (ht : V.allL (fun i => decide (i < n)) s.t = true) (hh : ∀ o ∈ s.h.take n, o.all (fun i => decide (i < n)) = true)
    (h : T P b ro c ⟨s.t, s.h.take n⟩ K) : T P b ro c s K := fun C E0 m a w hb0 L S => by
  obtain ⟨S', hL, _⟩ := S.cut n hn ht hh
  exact h C E0 _ a w hb0 (hL E0 (by omega) L) S'
end rules
end Go.Ab
