import Derived.Test.YtahflobpopclpaaAb31
import Derived.RecoverIn
namespace Go.Ab
open Go Go.RowKit
set_option linter.unusedVariables false
set_option linter.unusedSimpArgs false
/-! ### calls that give up, and calls that are put off -/
/-- What a value is, where no address is needed to tell it. -/
def toCell : V → Option Value
  | .bool b => some (.bool b)
  | .int k n => some (.int k n)
  | _ => none
def toCells : List V → Option (List Value)
  | [] => some []
  | c :: cs => match toCell c, toCells cs with
    | some u, some us => some (u :: us)
    | _, _ => none
def toVal : V → Option Value
  | .iface t (.agg cs) => match toCells cs with
    | some us => some (.iface t (.agg us.toArray))
    | none => none
  | _ => none
theorem toCell_rel {E : Env} {x : V} {u v : Value} (h : toCell x = some u) (hr : Rel E x v) : v = u := by
  cases x <;> simp only [toCell, Option.some.injEq, reduceCtorEq] at h <;> subst h <;> simpa only [Rel] using hr
theorem toCells_rel {E : Env} : ∀ {xs : List V} {us vs : List Value}, toCells xs = some us → RelL E xs vs → vs = us
  | [], us, vs, h, hr => by
    simp only [toCells, Option.some.injEq] at h; subst h
    simpa only [RelL] using hr
  | c :: cs, us, vs, h, hr => by
    simp only [toCells] at h
    split at h
    · rename_i u us' h1 h2
      simp only [Option.some.injEq] at h; subst h
      simp only [RelL] at hr
      obtain ⟨v, vs', rfl, h3, h4⟩ := hr
      rw [toCell_rel h1 h3, toCells_rel h2 h4]
    · cases h
theorem toVal_rel {E : Env} {x : V} {u v : Value} (h : toVal x = some u) (hr : Rel E x v) : v = u := by
  unfold toVal at h
  split at h
  · rename_i t cs
    split at h
    · rename_i us hc
      simp only [Option.some.injEq] at h; subst h
      simp only [Rel] at hr
      obtain ⟨y, rfl, vs, rfl, hR⟩ := hr
      have := toCells_rel hc hR
      have e : vs = us.toArray := by rw [← this]
      rw [e]
    · cases h
  · cases h
theorem toCell_of {E : Env} {x : V} {u : Value} (h : toCell x = some u) : Rel E x u := by
  cases x <;> simp only [toCell, Option.some.injEq, reduceCtorEq] at h <;> subst h <;> simp only [Rel]
theorem toCells_of {E : Env} : ∀ {xs : List V} {us : List Value}, toCells xs = some us → RelL E xs us
  | [], us, h => by simp only [toCells, Option.some.injEq] at h; subst h; simp only [RelL]
  | c :: cs, us, h => by
    simp only [toCells] at h
    split at h
    · rename_i u us' h1 h2
      simp only [Option.some.injEq] at h; subst h
      simp only [RelL]
      exact ⟨u, us', rfl, toCell_of h1, toCells_of h2⟩
    · cases h
theorem toVal_of {E : Env} {x : V} {u : Value} (h : toVal x = some u) : Rel E x u := by
  unfold toVal at h
  split at h
  · rename_i t cs
    split at h
    · rename_i us hc
      simp only [Option.some.injEq] at h; subst h
      simp only [Rel]
      exact ⟨_, rfl, _, rfl, toCells_of hc⟩
    · cases h
  · cases h
def chainOf (u : Value) : List PanicEntry := [{ v := u, recovered := false }]
/-- Calling f with data gives up with u; all that was there stays as it was. -/
def Pan (P : Program) (f : FuncId) (args : List V) (u : Value) : Prop :=
  ∀ (bad : Nat → Prop) (w : World) (cargs : Array Value), (∀ b, bad b → b < w.heap.size) → RelL ⟨bad, [], [], w⟩ args cargs.toList →
    Calls P f cargs w fun e w' => e = .panicked (chainOf u) ∧ Below w.heap.size w w'
theorem Pan_intro {P : Program} {f : FuncId} {fn : Func} {c : Code} {args : List V} {u : Value} (hf : P.funcs[f]? = some fn) (hb : fn.body = some c)
    (hT : T P 0 none c ⟨enter fn args, []⟩ (fun x s => x = .panic (chainOf u))) : Pan P f args u := by
  intro bad w cargs hbad hR
  refine (callsIn_wide (n := 0)).1 ?_
  refine callsIn_of_wp_marks hf hb trivial ?_
  have hlen := hR.length
  have hle : Env.Le (fun _ => true) ⟨bad, [], [], w⟩ (env ⟨bad, w, w.heap.size, []⟩ [] [] w) :=
    ⟨fun b _ h => by rcases h with h | ⟨i, o, v, h1, _⟩; exact h; simp at h1, fun _ _ _ => rfl, Nat.le_refl _, fun i _ v h => by simp at h, fun i _ h => by simp at h, fun i _ T sz rows h => by simp at h⟩
  have S0 : Sim ⟨bad, w, w.heap.size, []⟩ ⟨enter fn args, []⟩ [] { tmps := cargs ++ Array.replicate (fn.ntmps - cargs.size) undef, defers := [] } w := by
    refine ⟨Below.refl _ _, hbad, rfl, ?_, Marks.nil (Nat.le_refl _) (Nat.le_refl _), fun i o v h => by simp at h, fun i j v u b _ h => by simp at h, fun i v b h => by simp at h⟩
    simp only [enter, Array.toList_append, Array.toList_replicate]
    have : args.length = cargs.size := by simpa using hlen
    rw [this]
    exact (hR.le hle).append (RelL.undefs _)
  have hw := hT ⟨bad, w, w.heap.size, []⟩ (env ⟨bad, w, w.heap.size, []⟩ [] [] w) [] _ w rfl (LeN.refl _) S0
  refine wpIn_mono hw ?_
  rintro e a' w' ⟨s', m', rfl, S', L'⟩
  show LeavesInM Fence.wide 0 P fn a'.tmps _ a'.defers (.panicking (chainOf u)) w'
  refine leaves_mk (C := ⟨bad, w, w.heap.size, []⟩) (E0 := env ⟨bad, w, w.heap.size, []⟩ [] [] w) (s := s') (m := m') (Nat.le_refl _) (by simp) (fun w' S' L' => ?_) S' L'
  show LeavesInM Fence.wide 0 P fn a'.tmps _ [] (.panicking (chainOf u)) w'
  unfold LeavesInM
  exact ⟨rfl, S'.below⟩
section
variable {P : Program} {b : Nat} {ro : Option Nat} {s s1 : St} {K : Exit → St → Prop} {id : Nat} {ops : Array Oper}
theorem RunR.then {F : Facts P} {l l2 : List Nat} {s s' : St} (h : RunR F ops l s s') (ro : Option Nat) : ∀ {C : Ctx} {m : List Value} {a : Act} {w : World} (S : Sim C s m a w) {Q : Exit → Act → World → Prop}
    (k : ∀ m' a' w', Sim C s' m' a' w' → LeN (env C s.h m w) (env C s'.h m' w') → wpOpsIn (FW ro) 0 P ops Q l2 a' w'), wpOpsIn (FW ro) 0 P ops Q (l ++ l2) a w := by
  induction h with
  | nil =>
    intro C m a w S Q k
    exact k m a w S (LeN.refl _)
  | cons h1 h2 ih =>
    intro C m a w S Q k
    exact h1.sound ro S (fun m1 a1 w1 S1 L1 => ih S1 (fun m2 a2 w2 S2 L2 => k m2 a2 w2 S2 (L1.trans L2)))
/-- A region in which a call gives up. -/
theorem T_regPan {F : Facts P} {l1 l2 : List Nat} {i : Nat} {o : Oper} {x : Operand} {args : Array Operand} {ts : Array TypeId} {g : FuncId} {first caps vs dargs : List V} {u : Value} (hl : List.range ops.size = l1 ++ i :: l2) (h1 : RunR F ops l1 s s1) (ho : ops[i]? = some o) (hw : wantedV ops s1 o = some true)
    (hop : o.op = .call ⟨.value x, args, ts⟩) (hx : ev s1 x = some (.fn g first caps)) (ha : evs s1 args.toList = some vs) (hb : ∃ fn, P.funcs[g]? = some fn ∧ fn.body.isSome = true ∧ (fn.name == "runtime.NumGoroutine") = false)
    (hc : convDL (fun b => b) s1.h (first ++ vs ++ caps) = some dargs) (hr : Pan P g dargs u) (k : K (.panic (chainOf u)) s1) : T P b ro (.region id ops false) s K := fun C E0 m a w hb0 L S => by
  refine wpIn_region ?_
  rw [hl]
  refine h1.then ro S (fun m1 a1 w1 S1 L1 => ?_)
  unfold wpOpsIn
  simp only [ho, wantedV_sound S1 hw, if_true]
  refine ⟨fun _ _ => trivial, ?_⟩
  rw [Oper.semAt_eq _ _ _ (fun c hc => by simp [hc] at hop)]
  have hRx := ev_sound S1 hx
  simp only [Rel] at hRx
  obtain ⟨fa, ca, he, h2, h3⟩ := hRx
  have hRa := evs_sound S1 ha
  obtain ⟨fn, hfn, hbody, hname⟩ := hb
  have hnb : ¬ fn.body = none := fun e => by simp [e] at hbody
  have hne : ¬ fn.name = "runtime.NumGoroutine" := by simpa using hname
  have hcf : ∀ cargs, (callFunc g cargs).run P w1 = .ok (.enter g cargs) w1 := fun cargs => by
    simp [callFunc, hfn, hne, hnb]
  have hrun : (execOp a1.eval o).run P w1 = .ok (.enter g (fa ++ args.map a1.eval ++ ca)) w1 := by
    simp [execOp, hop, resolve, he, Deferred.ofValue, invoke, hcf]
  rw [hrun]
  refine ⟨fun h => by simp [FW, Fence.wide] at h, Calls.inFW ro _ ?_⟩
  have hargs : RelL (env C s1.h m1 w1) (first ++ vs ++ caps) (fa ++ args.map a1.eval ++ ca).toList := by
    simp only [Array.toList_append, Array.toList_map]
    exact (h2.append hRa).append h3
  have hbad : ∀ b, (env C s1.h m1 w1).bad b → b < w1.heap.size := fun b hb => by
    rcases hb with hb | ⟨i, o, v, _, _, h3, h4⟩
    · exact Nat.lt_of_lt_of_le (S1.out b hb) S1.below.size
    · exact (S1.low i v b h3 h4).2
  obtain ⟨hD, _⟩ := convDL_sound S1 (ok := fun b => b) (bad := (env C s1.h m1 w1).bad) (fun b _ h => h) (fun i T sz rows fr v b ho hfr hm hb hbd => by
    rcases hbd with hbd | ⟨j, o, u, h2, h3, h4, h5⟩
    · have h6 := (S1.low i v b hm hb).1
      have h7 := S1.out b hbd
      omega
    · by_cases hij : i = j
      · subst hij
        rw [ho] at h2; cases h2
        simp [AObj.live, hfr] at h3
      · exact S1.apart i j v u b hij hm h4 hb h5) hargs hc
  refine Calls.mono (hr _ w1 _ hbad hD) ?_
  rintro e w' ⟨rfl, hbel⟩
  exact ⟨s1, m1, k, S1.world hbel, (L.trans L1).trans (LeN.of (Nat.le_refl _) (le_world hbel))⟩
/-- A region that gives up by itself. -/
theorem T_regPanic {F : Facts P} {l1 l2 : List Nat} {i : Nat} {o : Oper} {x : Operand} {v : V} {u : Value} (hl : List.range ops.size = l1 ++ i :: l2) (h1 : RunR F ops l1 s s1) (ho : ops[i]? = some o) (hw : wantedV ops s1 o = some true)
    (hop : o.op = .panic x) (hx : ev s1 x = some v) (hv : toVal v = some u) (k : K (.panic (chainOf u)) s1) : T P b ro (.region id ops false) s K := fun C E0 m a w hb0 L S => by
  refine wpIn_region ?_
  rw [hl]
  refine h1.then ro S (fun m1 a1 w1 S1 L1 => ?_)
  unfold wpOpsIn
  simp only [ho, wantedV_sound S1 hw, if_true]
  refine ⟨fun _ _ => trivial, ?_⟩
  rw [Oper.semAt_eq _ _ _ (fun c hc => by simp [hc] at hop)]
  have hu := toVal_rel hv (ev_sound S1 hx)
  have hui : ∃ t y, u = .iface t y := by
    unfold toVal at hv
    split at hv
    · split at hv
      · simp only [Option.some.injEq] at hv; exact ⟨_, _, hv.symm⟩
      · cases hv
    · cases hv
  obtain ⟨t, y, rfl⟩ := hui
  have hrun : (execOp a1.eval o).run P w1 = .halt (.panic (.iface t y)) w1 := by
    simp [execOp, hop, hu, Instr.panic, goPanic, Sem.run]
  rw [hrun]
  exact ⟨s1, m1, k, S1, L.trans L1⟩
end
end Go.Ab
namespace Go.Ab
open Go Go.RowKit
set_option linter.unusedVariables false
set_option linter.unusedSimpArgs false
/-- Marks, shut one behind the other. -/
def shuts (P : Program) : List Deferred → World → World → Prop
  | [], w, w' => w' = w
  | d :: ds, w, w' => ∃ r w1, d.target = .collected r ∧ (Instr.takeDeferred r).run P w = .ok [] w1 ∧ shuts P ds w1 w'
theorem steps_shuts {P : Program} {F : Fence} {n : Nat} : ∀ (ds : List Deferred) {w w' : World} (fr : Frame) (cs : List Frame), fr.mode ≠ .run → fr.defers = ds → F.fn fr.fn → F.room (cs.length + 1 + n) → shuts P ds w w' →
    StepsIn (Machine.fenced P F) P (lone fr cs w) (lone { fr with defers := [] } cs w')
  | [], w, w', fr, cs, hm, hd, hF, hr, h => by
    simp only [shuts] at h; subst h
    have : ({ fr with defers := [] } : Frame) = fr := by rw [← hd]
    rw [this]
    exact .refl _
  | d :: ds, w, w', fr, cs, hm, hd, hF, hr, h => by
    obtain ⟨r, w1, h1, h2, h3⟩ := h
    have s1 := step_collected (cs := cs) hm hd h1 h2
    have i1 : (lone fr cs w).fenced P F := fenced_out hF hr hm hd (fun g hg => by rw [h1] at hg; simp [Target.leads] at hg)
    have s2 := steps_shuts ds { fr with defers := [] ++ ds } cs hm rfl hF hr h3
    exact .head i1 s1 s2
theorem Sim.shuts {P : Program} {C : Ctx} {s : St} {m : List Value} {tm : Array Value} {E0 : Env} (h0 : E0.w.heap.size ≤ C.at0) : ∀ (ms : List Deferred) {w : World}, (∀ x ∈ ms, Mark C (env C s.h m w) x) → ms.Pairwise (fun x y => x.target ≠ y.target) → Sim C s m ⟨tm, ms ++ C.base⟩ w → LeN E0 (env C s.h m w) →
    ∃ w', Ab.shuts P ms w w' ∧ Sim C s m ⟨tm, C.base⟩ w' ∧ LeN E0 (env C s.h m w')
  | [], w, _, _, S, L => ⟨w, rfl, S, L⟩
  | d :: ds, w, hm, hp, S, L => by
    obtain ⟨b, w', h1, h2, rfl, S', L', hm'⟩ := Sim.shut S h0 L hm hp
    rw [List.pairwise_cons] at hp
    obtain ⟨w2, h3, h4, h5⟩ := Sim.shuts (P := P) h0 ds hm' hp.2 S' L'
    exact ⟨w2, ⟨b, _, h1, run_takeDeferred h2, h3⟩, h4, h5⟩
/-- Calling g as a call that was put off, with the frame below in the mode u. -/
def DfrS (P : Program) (g : FuncId) (args : List V) (h : List AObj) (u u' : FrameMode) (h' : List AObj) : Prop :=
  ∀ (C : Ctx) (t : List V) (m : List Value) (a : Act) (w : World) (cargs : Array Value), Sim C ⟨t, h⟩ m a w → RelL (env C h m w) args cargs.toList →
    CallsDIn Fence.wide 0 P g cargs u w fun e u1 w' => ∃ v m', e = .returned v ∧ u1 = u' ∧ Sim C ⟨t, h'⟩ m' a w' ∧ LeN (env C h m w) (env C h' m' w')
def finD (h h' : List AObj) : Exit → St → Prop := fun x s => (x = .normal ∨ x = .ret) ∧ ∃ n, h.length ≤ n ∧ n ≤ s.h.length ∧ s.h.take n = h' ∧ ∀ o ∈ h', o.all (fun i => decide (i < n)) = true
theorem DfrS_intro {P : Program} {g : FuncId} {fn : Func} {id : Nat} {o : Oper} {d : Nat} {ts : Array TypeId} {rest : Code} {args : List V} {h h' : List AObj} {u u' : FrameMode} {v : V} {uv : Value} (hf : P.funcs[g]? = some fn) (hb : fn.body = some (.seq (.region id #[o] false) rest))
    (hg : o.guard = none) (hop : o.op = .call ⟨.builtin .recover, #[], ts⟩) (hd : o.dst = some d) (hres : fn.results = #[])
    (hrec : ∀ (c₀ : Frame) (cs : List Frame), c₀.mode = u → (recoverD (c₀ :: cs) = none ∧ u' = u ∧ uv = .nilIface) ∨ (recoverD (c₀ :: cs) = some (uv, { c₀ with mode := u' } :: cs)))
    (hv : ∀ E, Rel E v uv) (hT : T P h.length none rest ⟨(enter fn args).set d v, h⟩ (finD h h')) : DfrS P g args h u u' h' := by
  intro C t m a w cargs S hR
  refine ⟨trivial, fun c₀ cs hu hroom => ?_⟩
  have hlen := hR.length
  let C' : Ctx := { C with at0 := w.heap.size, base := [] }
  have S0 : Sim C' ⟨enter fn args, h⟩ m { tmps := cargs ++ Array.replicate (fn.ntmps - cargs.size) undef, defers := [] } w := by
    refine ⟨S.below, S.out, S.len, ?_, Marks.nil (C := C') S.below.size (Nat.le_refl _), S.objs, S.apart, S.low⟩
    simp only [enter, Array.toList_append, Array.toList_replicate]
    have : args.length = cargs.size := by simpa using hlen
    rw [this]
    exact hR.append (RelL.undefs _)
  have S1 : Sim C' ⟨(enter fn args).set d v, h⟩ m (Act.put { tmps := cargs ++ Array.replicate (fn.ntmps - cargs.size) undef, defers := [] } o.dst uv) w := by
    have := S0.puts o.dst (hv (env C' h m w))
    rw [hd] at this ⊢
    exact this
  have hrun : ∀ (a : Act), (execOp a.eval o).run P w = .ok .recover w := fun a => by
    simp [execOp, hop, resolve, invoke, builtin]
  let b : Frame := { (default : Frame) with fn := g, kind := .deferred, roundOf := none }
  have henter : Frame.enter P g cargs .deferred = b.atR { tmps := cargs ++ Array.replicate (fn.ntmps - cargs.size) undef, defers := [] } [.code (.seq (.region id #[o] false) rest)] := by
    simp [Frame.enter, Frame.atR, hf, hb, b]
  -- what is behind the recover
  have hw := hT C' (env C h m w) m _ w rfl (LeN.refl _) S1
  have hwp : (Code.seq (.region id #[o] false) rest).wpSIn Fence.wide 0 P (fun e a' cs' w' => cs' = { c₀ with mode := u' } :: cs ∧ Post C' (env C h m w) (finD h h') e a' w') { tmps := cargs ++ Array.replicate (fn.ntmps - cargs.size) undef, defers := [] } (c₀ :: cs) w := by
    refine wpSIn_seq (wpSIn_region ?_)
    have hr : List.range (#[o] : Array Oper).size = [0] := rfl
    rw [hr]
    have hwant : Region.wanted o (yielded #[o] ({ tmps := cargs ++ Array.replicate (fn.ntmps - cargs.size) undef, defers := [] } : Act).tmps) = true := by simp [Region.wanted, hg]
    unfold wpOpsSIn
    simp only [show (#[o] : Array Oper)[0]? = some o from rfl]
    refine ⟨fun _ _ => trivial, ?_⟩
    rw [if_pos hwant, hrun]
    rcases hrec c₀ cs hu with ⟨h1, h2, h3⟩ | h1
    · simp only [h1]
      have hc : ({ c₀ with mode := u' } : Frame) = c₀ := by rw [h2, ← hu]
      unfold wpOpsSIn
      refine wpSIn_of_wpIn rfl ?_
      rw [hc, ← h3]
      refine wpIn_mono hw ?_
      intro e a' w' hp
      exact ⟨rfl, hp⟩
    · simp only [h1]
      unfold wpOpsSIn
      refine wpSIn_of_wpIn rfl ?_
      refine wpIn_mono hw ?_
      intro e a' w' hp
      exact ⟨rfl, hp⟩
  obtain ⟨e, a', cs', w', hl, ⟨rfl, s', m', ⟨hx, n, hn1, hn2, hn3, ho⟩, S', L'⟩, harr⟩ := hwp b [] rfl rfl trivial hroom
  rw [← henter] at harr
  -- the marks
  obtain ⟨_, ms, hms, hmk, hpw⟩ := S'.defers
  obtain ⟨tm', ds'⟩ := a'
  have hms' : ds' = ms ++ C'.base := hms
  subst hms'
  obtain ⟨w2, hsh, S2, L2⟩ := Sim.shuts (P := P) (C := C') (E0 := env C h m w) (Nat.le_refl _) ms hmk hpw S' L'
  have hslots : RelL (env C s'.h m' w2) t a.tmps.toList := RelL.leN L2 (by simp only [env]; exact Nat.le_of_eq S.len) S.slots
  have hids : V.allL (fun i => decide (i < n)) t = true := by
    have h1 := RelL.ids (N := h.length) (by simp only [env]; exact Nat.le_of_eq S.len) (by simp only [env]; exact Nat.le_refl _) t S.slots
    exact V.allL_imp (fun i hi => by simp at *; omega) t h1
  have S3 : Sim C ⟨t, s'.h⟩ m' a w2 := ⟨S2.below, S2.out, S2.len, hslots, S.defers.le L2.le, S2.objs, S2.apart, S2.low⟩
  obtain ⟨S4, hL4, _⟩ := S3.cut n hn2 hids (by rw [hn3]; exact ho)
  have hL := hL4 (env C h m w) hn1 L2
  simp only [hn3] at S4 hL
  have hresu : (results fn tm').run P w2 = .ok (.tuple #[]) w2 := by
    rw [results_eq, hres]
    simp
  have fin : ∀ todo, ∃ fr, StepsIn (Machine.fenced P Fence.wide) P (lone { b.atR ⟨tm', ms ++ C'.base⟩ todo with mode := .returning } ({ c₀ with mode := u' } :: cs) w') (lone fr ({ c₀ with mode := u' } :: cs) w2) ∧ fr.kind = .deferred ∧ fr.fn = g ∧ fr.going P w2 (.returned (.tuple #[])) := fun todo => by
    have hst := steps_shuts (P := P) (F := Fence.wide) (n := 0) ms { b.atR ⟨tm', ms ++ C'.base⟩ todo with mode := .returning } ({ c₀ with mode := u' } :: cs) (by simp) (by simp [Frame.atR, C']) trivial (room_wide _) hsh
    exact ⟨_, hst, rfl, rfl, rfl, rfl, fn, hf, hresu⟩
  rcases hx with rfl | rfl
  · obtain ⟨fr, h1, h2, h3, h4⟩ := fin []
    refine ⟨.returned (.tuple #[]), u', w2, fr, ⟨_, m'.take n, rfl, rfl, S4, hL⟩, ?_, h2, h3, h4⟩
    exact StepsIn.trans harr (.head (fenced_calm (n := 0) (fr := b.atR _ []) trivial (room_wide _) rfl) (stepR_end rfl) h1)
  · obtain ⟨todo, hs⟩ := harr.1 rfl
    obtain ⟨fr, h1, h2, h3, h4⟩ := fin todo
    refine ⟨.returned (.tuple #[]), u', w2, fr, ⟨_, m'.take n, rfl, rfl, S4, hL⟩, ?_, h2, h3, h4⟩
    exact StepsIn.trans hs h1

/-- A function on data that puts a call off, and whose rest returns, or gives up and is caught. -/
def endD (P : Program) (fn : Func) (gd : FuncId) (dargs : List V) (r : V) : Exit → St → Prop := fun x s => ∃ h2 r0, (((x = .normal ∨ x = .ret) ∧ DfrS P gd dargs s.h .returning .returning h2) ∨ ∃ u, x = .panic (chainOf u) ∧ DfrS P gd dargs s.h (.panicking (chainOf u)) (.panicking [{ v := u, recovered := true }]) h2) ∧
  resV P fn ⟨s.t, h2⟩ = some r0 ∧ convT (fun _ => true) h2 r0 = some r
theorem Ret_defer {P : Program} {F : Facts P} {f : FuncId} {fn : Func} {A B : Code} {id : Nat} {ops : Array Oper} {args : List V} {r : V} {sA sR : St} {l1 : List Nat} {i : Nat} {o : Oper} {x : Operand} {ts : Array TypeId} {gd : FuncId} {first caps : List V}
    (hf : P.funcs[f]? = some fn) (hb : fn.body = some (.seq A (.seq (.region id ops false) B)))
    (hA : T P 0 none A ⟨enter fn args, []⟩ (fun x s => x = .normal ∧ s = sA)) (hops : RunR F ops l1 sA sR) (hl : List.range ops.size = l1 ++ [i]) (ho : ops[i]? = some o) (hw : wantedV ops sR o = some true)
    (hop : o.op = .defer ⟨.value x, #[], ts⟩) (hx : ev sR x = some (.fn gd first caps)) (hcal : ∃ fn, P.funcs[gd]? = some fn ∧ fn.body.isSome = true ∧ (fn.name == "runtime.NumGoroutine") = false)
    (hB : T P sR.h.length none B ⟨puts sR.t o.dst (.tup []), sR.h⟩ (endD P fn gd (first ++ caps) r)) : Ret P f args r := by
  intro bad w cargs hbad hR
  refine (callsIn_wide (n := 0)).1 ?_
  refine callsIn_of_wp_marks hf hb trivial ?_
  have hlen := hR.length
  let C : Ctx := ⟨bad, w, w.heap.size, []⟩
  have hle : Env.Le (fun _ => true) ⟨bad, [], [], w⟩ (env C [] [] w) :=
    ⟨fun b _ h => by rcases h with h | ⟨i, o, v, h1, _⟩; exact h; simp at h1, fun _ _ _ => rfl, Nat.le_refl _, fun i _ v h => by simp at h, fun i _ h => by simp at h, fun i _ T sz rows h => by simp at h⟩
  have S0 : Sim C ⟨enter fn args, []⟩ [] { tmps := cargs ++ Array.replicate (fn.ntmps - cargs.size) undef, defers := [] } w := by
    refine ⟨Below.refl _ _, hbad, rfl, ?_, Marks.nil (C := C) (Nat.le_refl _) (Nat.le_refl _), fun i o v h => by simp at h, fun i j v u b _ h => by simp at h, fun i v b h => by simp at h⟩
    simp only [enter, Array.toList_append, Array.toList_replicate]
    have : args.length = cargs.size := by simpa using hlen
    rw [this]
    exact (hR.le hle).append (RelL.undefs _)
  have hw0 := hA C (env C [] [] w) [] _ w rfl (LeN.refl _) S0
  refine wpIn_seq (wpIn_mono hw0 ?_)
  rintro e a1 w1 ⟨s1, m1, ⟨rfl, rfl⟩, S1, L1⟩
  refine wpIn_seq (wpIn_region ?_)
  rw [hl]
  refine hops.then none S1 (fun m2 a2 w2 S2 L2 => ?_)
  unfold wpOpsIn
  simp only [ho, wantedV_sound S2 hw, if_true]
  refine ⟨fun _ _ => trivial, ?_⟩
  have hRx := ev_sound S2 hx
  simp only [Rel] at hRx
  obtain ⟨fa, ca, he, hfa, hca⟩ := hRx
  have hrun : (o.semAt (FW none).round a2.eval).run P w2 = .ok (.defer { target := .fn (Fn.func gd) ca, args := fa }) w2 := by
    show (o.semAt none a2.eval).run P w2 = _
    rw [Oper.semAt_none]
    simp [execOp, hop, resolve, he, Deferred.ofValue]
  rw [hrun, Oper.uponIn_defer]
  unfold wpOpsIn
  show Code.wpIn (FW none) 0 P B _ _ w2
  -- the rest, with the call put off
  let d : Deferred := { target := .fn (Fn.func gd) ca, args := fa }
  let C1 : Ctx := { C with at0 := w2.heap.size, base := d :: a2.defers }
  have S3 : Sim C1 ⟨puts sR.t o.dst (.tup []), sR.h⟩ m2 (Act.put { a2 with defers := d :: a2.defers } o.dst undef) w2 := by
    have := S2.puts o.dst (rel_undef (E := env C sR.h m2 w2))
    have hdf : (Act.put { a2 with defers := d :: a2.defers } o.dst undef).tmps = (a2.put o.dst undef).tmps := by cases o.dst <;> rfl
    have hdd : (Act.put { a2 with defers := d :: a2.defers } o.dst undef).defers = d :: a2.defers := by cases o.dst <;> rfl
    refine ⟨S2.below, S2.out, S2.len, by rw [hdf]; exact this.slots, by rw [hdd]; exact Marks.nil (C := C1) S2.below.size (Nat.le_refl _), S2.objs, S2.apart, S2.low⟩
  have hwB := hB C1 (env C sR.h m2 w2) m2 _ w2 rfl (LeN.refl _) S3
  refine wpIn_mono hwB ?_
  rintro e a3 w3 ⟨s4, m4, ⟨h2, r0, hcase, hres, hconv⟩, S4, L4⟩
  -- how it is left
  have finish : ∀ (u u' : FrameMode), u ≠ .run → settle u' = .returning → DfrS P gd (first ++ caps) s4.h u u' h2 → LeavesInM Fence.wide 0 P fn a3.tmps (fun e w' => ∃ v_1, e = .returned v_1 ∧ Rel ⟨bad, [], [], w'⟩ r v_1 ∧ Below w.heap.size w w') a3.defers u w3 := fun u u' hu hset hdfr => by
    refine leaves_mk (C := C1) (E0 := env C sR.h m2 w2) (s := s4) (m := m4) (Nat.le_refl _) hu (fun w4 S5 L5 => ?_) S4 L4
    show LeavesInM Fence.wide 0 P fn a3.tmps _ (d :: a2.defers) u w4
    unfold LeavesInM
    refine ⟨hu, .inr ⟨fun h => by simp [Fence.wide] at h, Fn.func gd, ca, gd, fa ++ ca, rfl, ?_, fun _ _ => trivial, ?_⟩⟩
    · obtain ⟨fng, hfn, hbody, hname⟩ := hcal
      have hnb : ¬ fng.body = none := fun e => by simp [e] at hbody
      have hne : ¬ fng.name = "runtime.NumGoroutine" := by simpa using hname
      simp [d, invoke, callFunc, hfn, hne, hnb]
    · have S6 : Sim C ⟨s4.t, s4.h⟩ m4 ⟨a3.tmps, a2.defers⟩ w4 := ⟨S5.below, S5.out, S5.len, S5.slots, S2.defers.le L5.le, S5.objs, S5.apart, S5.low⟩
      have hargs : RelL (env C s4.h m4 w4) (first ++ caps) (fa ++ ca).toList := by
        simp only [Array.toList_append]
        exact RelL.leN L5 (by simp only [env]; exact Nat.le_of_eq S2.len) (hfa.append hca)
      have hcd := hdfr C s4.t m4 ⟨a3.tmps, a2.defers⟩ w4 (fa ++ ca) S6 hargs
      refine ⟨hcd.1, fun c cs hc hroom => ?_⟩
      obtain ⟨e', u1, w5, fr, ⟨v, m5, rfl, rfl, S7, L7⟩, hst, hk, hfn2, hgo⟩ := hcd.2 c cs hc hroom
      refine ⟨.returned v, u1, w5, fr, ?_, hst, hk, hfn2, hgo⟩
      show LeavesInM Fence.wide 0 P fn a3.tmps _ a2.defers (settle u1) w5
      rw [hset]
      refine leaves_marks (C := C) (E0 := env C [] [] w) (s := ⟨s4.t, h2⟩) (m := m5) (a := ⟨a3.tmps, a2.defers⟩) rfl (Nat.le_refl _) (fun w6 S8 L8 => ?_) S7 (((L1.trans L2).trans L5).trans L7)
      obtain ⟨v6, hv6, hrv⟩ := resV_sound S8 hres
      have hd := convT_sound S8 (ok := fun _ => true) (bad := bad) (fun b _ h => .inl h) (fun i T sz rows fr v b ho _ hm hb' hbd => by
        have := (S8.low i v b hm hb').1
        have h2 := hbad b hbd
        simp only [C] at this
        omega) hrv hconv
      exact ⟨v6, hv6, v6, rfl, hd.1, S8.below⟩
  rcases hcase with ⟨hx', hd⟩ | ⟨u, rfl, hd⟩
  · rcases hx' with rfl | rfl
    · exact finish _ _ (by simp) rfl hd
    · exact finish _ _ (by simp) rfl hd
  · exact finish _ _ (by simp) rfl hd
end Go.Ab
namespace Go.Ab
open Go Go.RowKit
set_option linter.unusedVariables false
set_option linter.unusedSimpArgs false
section
variable {P : Program} {b : Nat} {ro : Option Nat} {s : St} {K : Exit → St → Prop} {id : Nat} {ops : Array Oper}
/-- A region that starts with an empty literal: an own row, still empty. -/
theorem T_lit0 (F : Facts P) {l : List Nat} {o : Oper} {ty E sz d : Nat} (hl : List.range ops.size = 0 :: l) (ho : ops[0]? = some o) (hd : o.dst = some d) (hg : o.guard = none) (hop : o.op = .buildSlice ty 0 #[]) (he : elemT P ty = some (E, sz))
    (hk : RegW F ops l ⟨s.t.set d (.arr s.h.length 0), s.h ++ [.arr E sz [] false]⟩ (K .normal)) : T P b ro (.region id ops false) s K := fun C E0 m a w hb0 L S => by
  have hk : RegW F ops l ⟨puts s.t o.dst (.arr s.h.length 0), s.h ++ [.arr E sz [] false]⟩ (K .normal) := by rw [hd]; exact hk
  obtain ⟨s', h1, k⟩ := hk
  refine wpIn_region ?_
  rw [hl]
  obtain ⟨hu, hsz, hnz⟩ := elemT_spec he
  unfold wpOpsIn
  have hw : wantedV ops s o = some true := by simp [wantedV, hg]
  simp only [ho, wantedV_sound S hw, if_true]
  refine ⟨fun _ _ => trivial, ?_⟩
  rw [Oper.semAt_eq _ _ _ (fun c hc => by simp [hc] at hop)]
  have hso : (sizeOf E).run P w = .ok sz w := by rw [← hsz]; exact cellsOf_info (by rw [hsz]; exact hnz) w
  have hrun : (execOp a.eval o).run P w = .ok (.value (.slice (some ⟨w.heap.size, 0, none⟩) 0 0)) (w.alloc (.cells #[] E)) := by
    simp only [execOp, hop]
    have hr : ∀ x : Value, (Array.map (fun _ : Nat => x) (Array.range 0)) = #[] := fun x => by apply Array.ext <;> simp
    simp [Instr.buildSlice, Sem.run_bind, run_underlying hu, hso, Instr.fill, newRow, newObj, Sem.run]
    rw [hr]
  rw [hrun]
  have hbel := below_alloc' w (.cells #[] E)
  obtain ⟨S1, U1⟩ := S.add (o := .arr E sz [] false) (v := .slice (some ⟨w.heap.size, 0, none⟩) 0 0) hbel
    (fun b hb => by simp only [blk, Option.some.injEq] at hb; subst hb; exact ⟨Nat.le_refl _, by rw [size_alloc']; omega⟩)
    (fun L => ⟨[], by simpa [env] using World.ownsRow_lit (base := C.w0.heap.size) (e := E) (size := sz) w #[] 0 S.below.size (by unfold maxLen; omega) (by simp), by simp [RelL], by simp⟩)
  have hR : Rel (env C (s.h ++ [.arr E sz [] false]) (m ++ [.slice (some ⟨w.heap.size, 0, none⟩) 0 0]) (w.alloc (.cells #[] E))) (.arr s.h.length 0) (.slice (some ⟨w.heap.size, 0, none⟩) 0 0) := by
    simp only [Rel, env]
    refine ⟨by simp, fun T0 sz rows fr ho => ?_⟩
    simp at ho
    obtain ⟨rfl, rfl, rfl, rfl⟩ := ho
    exact ⟨by simp, fun _ => by rw [← S.len]; simp⟩
  have S2 := S1.puts o.dst hR
  have L2 : LeN (env C s.h m w) (env C (s.h ++ [.arr E sz [] false]) (m ++ [.slice (some ⟨w.heap.size, 0, none⟩) 0 0]) (w.alloc (.cells #[] E))) := LeN.of U1.1 U1.2
  have := h1.then (l2 := []) ro S2 (Q := Post C E0 K) (fun m1 a1 w1 S3 L3 => by
    unfold wpOpsIn
    exact ⟨s', m1, k, S3, (L.trans L2).trans L3⟩)
  rw [List.append_nil] at this
  exact this
/-- A region that ends in giving up. -/
theorem T_panW (F : Facts P) {l : List Nat} {i : Nat} (hl : List.range ops.size = l ++ [i])
    (hk : RegW F ops l s (fun s1 => ∃ (o : Oper) (x : Operand) (v : V) (u : Value), ops[i]? = some o ∧ wantedV ops s1 o = some true ∧ o.op = .panic x ∧ ev s1 x = some v ∧ toVal v = some u ∧ K (.panic (chainOf u)) s1)) : T P b ro (.region id ops false) s K := by
  obtain ⟨s1, h1, o, x, v, u, ho, hw, hop, hx, hv, k⟩ := hk
  exact T_regPanic hl h1 ho hw hop hx hv k
/-- A region in which a call gives up. -/
theorem T_panCallW (F : Facts P) {l1 : List Nat} {i : Nat} (l2 : List Nat) (hl : List.range ops.size = l1 ++ i :: l2)
    (hk : RegW F ops l1 s (fun s1 => ∃ (o : Oper) (x : Operand) (args : Array Operand) (ts : Array TypeId) (g : FuncId) (first caps vs dargs : List V) (u : Value), ops[i]? = some o ∧ wantedV ops s1 o = some true ∧ o.op = .call ⟨.value x, args, ts⟩ ∧ ev s1 x = some (.fn g first caps) ∧ evs s1 args.toList = some vs ∧
      (∃ fn, P.funcs[g]? = some fn ∧ fn.body.isSome = true ∧ (fn.name == "runtime.NumGoroutine") = false) ∧ convDL (fun b => b) s1.h (first ++ vs ++ caps) = some dargs ∧ Pan P g dargs u ∧ K (.panic (chainOf u)) s1)) : T P b ro (.region id ops false) s K := by
  obtain ⟨s1, h1, o, x, args, ts, g, first, caps, vs, dargs, u, ho, hw, hop, hx, ha, hb, hc, hr, k⟩ := hk
  exact T_regPan hl h1 ho hw hop hx ha hb hc hr k
theorem RunR.of_W {F : Facts P} {l : List Nat} {s1 : St} (h : RegW F ops l s (fun s' => s' = s1)) : RunR F ops l s s1 := by
  obtain ⟨s', h1, rfl⟩ := h
  exact h1
theorem K_seqP {y : Code} {c : List PanicEntry} (h : K (.panic c) s) : seqK P b ro y K (.panic c) s := h
end
end Go.Ab
