import Derived.Test.YtahflobpopclpaaAb26
namespace Go.Ab
open Go Go.RowKit
set_option linter.unusedVariables false
/-! ### loops over functions -/
def zipSet : List V → List Tmp → List V → List V
  | t, p :: ps, a :: as => zipSet (t.set p a) ps as
  | t, _, _ => t
theorem RelL.zipSet {E : Env} : ∀ (ps : List Tmp) {t as : List V} {us : Array Value} {vs : List Value}, RelL E t us.toList → RelL E as vs → RelL E (zipSet t ps as) ((ps.zip vs).foldl (fun (tm : Array Value) (x : Tmp × Value) => tm.setIfInBounds x.1 x.2) us).toList
  | [], t, as, us, vs, h, k => by simpa [Ab.zipSet] using h
  | p :: ps, t, [], us, vs, h, k => by
    simp only [RelL] at k; subst k
    simpa [Ab.zipSet] using h
  | p :: ps, t, a :: as, us, vs, h, k => by
    simp only [RelL] at k
    obtain ⟨u, us', rfl, k1, k2⟩ := k
    simp only [Ab.zipSet, List.zip_cons_cons, List.foldl_cons]
    exact RelL.zipSet ps (by simpa [Array.toList_setIfInBounds] using RelL.set p h k1) k2
/-- How a round may be left: what is pending then. -/
def roundExit : Exit → Option (Option Code)
  | .normal => some none
  | .ret => some (some .ret)
  | .exit id => some (some (.exit id))
  | _ => none
def roundK (b i : Nat) (r : V) (h' : List AObj) : Exit → St → Prop := fun x s => ∃ jump pe tm ps as bd n, roundExit x = some jump ∧ s.h[i]? = some (.loop .busy pe tm ps as bd) ∧ r = .bool jump.isNone ∧ b ≤ n ∧ n ≤ s.h.length ∧
  (s.h.set i (.loop (if jump.isNone then .ready else .done) jump tm ps as bd)).take n = h' ∧ ∀ o ∈ h', o.all (fun i => decide (i < n)) = true
/-- A loop's record turns. -/
theorem Sim.loop {C : Ctx} {s : St} {m : List Value} {a : Act} {w : World} (S : Sim C s m a w) {i b : Nat} {st : LoopState} {pe : Option Code} {tm : List V} {ps : Array Tmp} {as bd : Code} (ho : s.h[i]? = some (.loop st pe tm ps as bd)) (hm : m[i]? = some (.func (.yield b) #[] #[])) :
    ∃ fn us df, w.heap[b]? = some (.loop { state := st, pending := pe, fn, tmps := us, params := ps, assign := as, body := bd, defers := df }) ∧ RelL (env C s.h m w) tm us.toList ∧
      ∀ st' pe', Sim C ⟨s.t, s.h.set i (.loop st' pe' tm ps as bd)⟩ m a (w.putObj b (.loop { state := st', pending := pe', fn, tmps := us, params := ps, assign := as, body := bd, defers := df })) ∧
        Up (env C s.h m w) (env C (s.h.set i (.loop st' pe' tm ps as bd)) m (w.putObj b (.loop { state := st', pending := pe', fn, tmps := us, params := ps, assign := as, body := bd, defers := df }))) := by
  obtain ⟨b', fn, us, df, he, h1, h2, h3⟩ := S.objs i _ _ ho hm
  cases he
  refine ⟨fn, us, df, h2, h3, fun st' pe' => ?_⟩
  have hlt : b < w.heap.size := cells_lt h2
  obtain ⟨h4, L⟩ := S.turn (o' := .loop st' pe' tm ps as bd) (v' := .func (.yield b) #[] #[]) ho hm rfl (.inr (.inr (.inr (.inr ⟨_, _, _, _, _, _, _, _, _, rfl, rfl, rfl⟩))))
    (grownBy_put w b (.loop { state := st', pending := pe', fn, tmps := us, params := ps, assign := as, body := bd, defers := df })) (.inl rfl)
    (fun L => ⟨b, fn, us, df, rfl, h1, World.putObj_heap_same hlt, h3.le L⟩)
  have hs : m.set i (.func (.yield b) #[] #[]) = m := by
    obtain ⟨hl, he⟩ := List.getElem?_eq_some_iff.1 hm
    rw [← he]; exact List.set_getElem_self hl
  rw [hs] at h4 L
  exact ⟨h4, L⟩
theorem RetY_intro {P : Program} {i : Nat} {pe : Option Code} {tm : List V} {ps : Array Tmp} {as bd : Code} {args : List V} {h h' : List AObj} {r : V} (ho : h[i]? = some (.loop .ready pe tm ps as bd)) (hl : args.length = ps.size)
    (hT : ∀ ro, T P h.length ro as ⟨zipSet tm ps.toList args, h⟩ (fun x s1 => x = .normal ∧ ∃ pe1 tm1 ps1 as1 bd1, s1.h[i]? = some (.loop .ready pe1 tm1 ps1 as1 bd1) ∧ T P h.length ro bd ⟨s1.t, s1.h.set i (.loop .busy pe1 tm1 ps1 as1 bd1)⟩ (roundK h.length i r h'))) : RetY P i args h r h' := by
  intro C t m a w cargs ro b S hR hm
  obtain ⟨fn, us, df, hh, hus, _⟩ := S.loop ho hm
  have hlen := hR.length
  have hla : cargs.size = ps.size := by simp at hlen; omega
  have hy := run_yield (P := P) (args := cargs) hh (by simpa using hla)
  refine ⟨_, _, _, _, hy, roundIn_of_wpIn (F := FW ro) trivial ?_⟩
  have hz : (ps.zip cargs).foldl (fun tmps (x : Tmp × Value) => tmps.setIfInBounds x.1 x.2) us = (ps.toList.zip cargs.toList).foldl (fun tmps (x : Tmp × Value) => tmps.setIfInBounds x.1 x.2) us := by
    rw [← Array.foldl_toList, Array.toList_zip]
  have hS0 : Sim { C with at0 := w.heap.size, base := [] } ⟨zipSet tm ps.toList args, h⟩ m { tmps := (ps.zip cargs).foldl (fun tmps (x : Tmp × Value) => tmps.setIfInBounds x.1 x.2) us, defers := [] } w := by
    refine ⟨S.below, S.out, S.len, ?_, Marks.nil S.below.size (Nat.le_refl _), S.objs, S.apart, S.low⟩
    rw [hz]
    exact RelL.zipSet ps.toList hus hR
  have hw := hT (some b) { C with at0 := w.heap.size, base := [] } (env C h m w) m _ w rfl (LeN.refl _) hS0
  refine wpIn_mono hw ?_
  rintro e a1 w1 ⟨s1, m1, ⟨rfl, pe1, tm1, ps1, as1, bd1, ho1, hT2⟩, S1, L1⟩
  have hm1 : m1[i]? = some (.func (.yield b) #[] #[]) := L1.le.mp i (by have := (List.getElem?_eq_some_iff.1 ho).1; simpa [env] using this) _ hm (by simp)
  obtain ⟨fn1, us1, df1, hh1, _, hturn⟩ := S1.loop ho1 hm1
  refine ⟨_, run_beginRound hh1 rfl, ?_⟩
  obtain ⟨S2, U2⟩ := hturn .busy pe1
  have hw2 := hT2 { C with at0 := w.heap.size, base := [] } (env C h m w) m1 _ _ rfl (L1.trans U2.leN) S2
  refine wpIn_mono hw2 ?_
  rintro e a2 w2 ⟨s2, m2, ⟨jump, pe2, tm2, ps2, as2, bd2, n, hx, ho2, hr, hn1, hn2, hn3, hall⟩, S3, L3⟩
  have hm2 : m2[i]? = some (.func (.yield b) #[] #[]) := L3.le.mp i (by have := (List.getElem?_eq_some_iff.1 ho).1; simpa [env] using this) _ hm (by simp)
  obtain ⟨fn2, us2, df2, hh2, _, hturn2⟩ := S3.loop ho2 hm2
  have key : ∀ jump', jump' = jump → ∃ v w', (Instr.endRound b jump').run P w2 = .ok v w' ∧ ∃ v_1 m', Ending.returned v = .returned v_1 ∧ Sim C ⟨t, h'⟩ m' a w' ∧ Rel (env C h' m' w') r v_1 ∧ LeN (env C h m w) (env C h' m' w') := by
    rintro jump' rfl
    obtain ⟨S4, U4⟩ := hturn2 (if jump'.isNone then .ready else .done) jump'
    have L4 := L3.trans U4.leN
    refine ⟨_, _, run_endRound jump' hh2, _, m2.take n, rfl, ?_⟩
    have hslots : RelL _ t a.tmps.toList := RelL.leN L4 (by simp only [env]; exact Nat.le_of_eq S.len) S.slots
    have hids : V.allL (fun i => decide (i < n)) t = true := by
      have h1 := RelL.ids (N := h.length) (by simp only [env]; exact Nat.le_of_eq S.len) (by simp only [env]; exact Nat.le_refl _) t S.slots
      exact V.allL_imp (fun i hi => by simp at *; omega) t h1
    have S5 : Sim C ⟨t, _⟩ m2 a _ := ⟨S4.below, S4.out, S4.len, hslots, S.defers.le L4.le, S4.objs, S4.apart, S4.low⟩
    obtain ⟨S6, hL2, hL3⟩ := S5.cut n (by simpa using hn2) hids (by simp only [hn3]; exact hall)
    have hL := hL2 (env C h m w) hn1 L4
    simp only [hn3] at S6 hL
    refine ⟨S6, ?_, hL⟩
    subst hr
    simp only [Rel]
  cases e <;> simp only [roundExit, Option.some.injEq, reduceCtorEq] at hx
  all_goals exact key _ hx
/-- A loop over a function begins: its mark is set. -/
theorem Sim.mark {C : Ctx} {s : St} {m : List Value} {a : Act} {w : World} (S : Sim C s m a w) : Sim C s m { a with defers := { target := .collected w.heap.size, args := #[] } :: a.defers } (w.alloc (.deferred (some []))) := by
  have S1 := S.world (below_alloc' w (.deferred (some [])))
  obtain ⟨⟨h1, h2⟩, ms, hms, h3, h4⟩ := S.defers
  have L := le_world (C := C) (h := s.h) (m := m) (below_alloc' w (.deferred (some [])))
  obtain ⟨g, _⟩ := S1.defers
  simp only [env] at h2
  refine ⟨S1.below, S1.out, S1.len, S1.slots, ⟨g, { target := .collected w.heap.size, args := #[] } :: ms, by simp [hms], fun d hd => ?_, ?_⟩, S1.objs, S1.apart, S1.low⟩
  · rcases List.mem_cons.1 hd with rfl | hd
    · refine ⟨w.heap.size, rfl, h2, by simp only [env]; rw [size_alloc']; omega, fun hb => ?_, by simp only [env]; exact alloc_new _ _⟩
      rcases hb with hb | ⟨i, o, v, k1, k2, k3, k4⟩
      · have := S.out _ hb
        have := S.below.size
        omega
      · have := (S.low i v _ k3 k4).2
        omega
    · exact (h3 d hd).le L
  · rw [List.pairwise_cons]
    refine ⟨fun d hd e => ?_, h4⟩
    obtain ⟨b, rfl, k1, k2, k3, k4⟩ := h3 d hd
    simp only [Target.collected.injEq] at e
    simp only [env] at k2
    omega
def contK (P : Program) (b : Nat) (K : Exit → St → Prop) : Option Code → St → Prop
  | none, s => K .normal s
  | some c, s => T P b none c s K
theorem T_rangeFunc {P : Program} {b : Nat} {s : St} {K : Exit → St → Prop} {g : Operand} {ps : Array Tmp} {as bd : Code} {gf : FuncId} {first caps : List V} {r : V} {st : LoopState} {pe : Option Code} {tm : List V} {ps' : Array Tmp} {as' bd' : Code} {h1 : List AObj}
    (hx : ev s g = some (.fn gf first caps)) (hb : ∃ fn, P.funcs[gf]? = some fn ∧ fn.body.isSome = true ∧ (fn.name == "runtime.NumGoroutine") = false)
    (hr : RetS P gf (first ++ [.yield s.h.length] ++ caps) (s.h ++ [.loop .ready none s.t ps as bd]) r h1) (ho : h1[s.h.length]? = some (.loop st pe tm ps' as' bd')) (hst : st ≠ .busy)
    (k : contK P b K pe ⟨s.t, h1.set s.h.length (.loop .exhausted pe tm ps' as' bd')⟩) : T P b none (.rangeFunc g ps as bd) s K := by
  intro C E0 m a w hb0 L S
  refine wpIn_rangeFunc fun fn hfn => ?_
  have hRx := ev_sound S hx
  simp only [Rel] at hRx
  obtain ⟨fa, ca, he, hfa, hca⟩ := hRx
  obtain ⟨fn', hfn', hbody, hname⟩ := hb
  have hnb : ¬ fn'.body = none := fun e => by simp [e] at hbody
  have hne : ¬ fn'.name = "runtime.NumGoroutine" := by simpa using hname
  have hcf : ∀ cargs W, (callFunc gf cargs).run P W = .ok (.enter gf cargs) W := fun cargs W => by
    simp [callFunc, hfn', hne, hnb]
  have hsz : (w.alloc (.deferred (some []))).heap.size = w.heap.size + 1 := size_alloc' _ _
  have S1 := S.mark
  obtain ⟨S2, U2⟩ := S1.add (o := .loop .ready none s.t ps as bd) (v := .func (.yield (w.heap.size + 1)) #[] #[])
    (below_alloc' (w.alloc (.deferred (some []))) (.loop { state := .ready, pending := none, fn, tmps := a.tmps, params := ps, assign := as, body := bd, defers := w.heap.size }))
    (fun b' hb' => by simp only [blk, Option.some.injEq] at hb'; subst hb'; exact ⟨by omega, by rw [size_alloc', hsz]; omega⟩)
    (fun L => ⟨w.heap.size + 1, fn, a.tmps, w.heap.size, rfl, by have := S.below.size; omega, by rw [← hsz]; exact alloc_new _ _, S1.slots.le L⟩)
  have U1 : Up (env C s.h m w) (env C s.h m (w.alloc (.deferred (some [])))) := up_world (below_alloc' w _)
  have UU := U1.trans U2
  have hargs : RelL (env C (s.h ++ [.loop .ready none s.t ps as bd]) (m ++ [.func (.yield (w.heap.size + 1)) #[] #[]]) ((w.alloc (.deferred (some []))).alloc (.loop { state := .ready, pending := none, fn, tmps := a.tmps, params := ps, assign := as, body := bd, defers := w.heap.size })))
      (first ++ [.yield s.h.length] ++ caps) (fa ++ #[Value.func (.yield (w.heap.size + 1)) #[] #[]] ++ ca).toList := by
    simp only [Array.toList_append]
    refine ((hfa.le UU.2).append ?_).append (hca.le UU.2)
    simp only [RelL, Rel, env]
    exact ⟨_, _, rfl, ⟨w.heap.size + 1, by rw [← S.len]; simp, rfl⟩, rfl⟩
  refine ⟨w.heap.size + 1, [{ target := .collected w.heap.size, args := #[] }], _, { target := .fn (Fn.func gf) ca, args := fa ++ #[Value.func (.yield (w.heap.size + 1)) #[] #[]] }, ((w.alloc (.deferred (some []))).alloc (.loop { state := .ready, pending := none, fn, tmps := a.tmps, params := ps, assign := as, body := bd, defers := w.heap.size })), gf, fa ++ #[Value.func (.yield (w.heap.size + 1)) #[] #[]] ++ ca, _,
    run_enterLoop_outer _ _ _ _ _, ?_, fun f' hf' => trivial, ?_, fun h => by simp [FW, Fence.wide] at h, Calls.inFW none _ (Calls.mono (hr C s.t _ _ _ _ S2 hargs) ?_)⟩
  · simp only [resolve, he]
    simp [go_sem, Deferred.ofValue]
  · simp [invoke, hcf]
  · rintro e w3 ⟨v, m3, rfl, S3, hR3, L3⟩
    have hm3 : m3[s.h.length]? = some (Value.func (.yield (w.heap.size + 1)) #[] #[]) := L3.le.mp _ (by simp [env]) _ (by simp only [env]; rw [← S.len]; simp) (by simp)
    obtain ⟨fn3, us3, df3, hh3, _, hturn⟩ := S3.loop ho hm3
    obtain ⟨S4, U4⟩ := hturn .exhausted pe
    refine ⟨pe, _, run_endLoop hh3 hst, ?_⟩
    have L4 := L.trans (UU.leN.trans (L3.trans U4.leN))
    cases pe with
    | none => exact ⟨_, m3, k, S4, L4⟩
    | some c => exact k C E0 m3 _ _ hb0 L4 S4
/-! ### scopes and labels -/
def scopeK (K : Exit → St → Prop) : Exit → St → Prop
  | .goto _, _ => False
  | x, s => K x s
theorem stepR_scope' {P : Program} {b : Frame} {a : Act} {k : List Item} {cs : List Frame} {w : World} {c : Code} : step P (lone (b.atR a (.code (.scope c) :: k)) cs w) = .next (lone (b.atR a (.code c :: .inScope c :: k)) cs w) :=
  step_lone_go (by simp [stepG, stepG.exec, Frame.atR])
theorem stepR_inScope' {P : Program} {b : Frame} {a : Act} {k : List Item} {cs : List Frame} {w : World} {c : Code} : step P (lone (b.atR a (.inScope c :: k)) cs w) = .next (lone (b.atR a k) cs w) :=
  step_lone_go (by simp [stepG, stepG.exec, Frame.atR])
section
variable {P : Program} {b : Nat} {ro : Option Nat} {s : St} {K : Exit → St → Prop}
theorem T_label {l : Nat} (h : K .normal s) : T P b ro (.label l) s K := fun C E0 m a w hb L S => wpIn_label ⟨s, m, h, S, L⟩
theorem T_scope {c : Code} (h : T P b ro c s (scopeK K)) : T P b ro (.scope c) s K := by
  intro C E0 m a w hb L S fr k cs hro hfn hroom
  obtain ⟨e, a1, w1, ⟨s1, m1, hk, S1, L1⟩, harr⟩ := h C E0 m a w hb L S fr (.inScope c :: k) cs hro hfn hroom
  have h0 : StepsIn (Machine.fenced P (FW ro)) P (lone (fr.atR a (.code (.scope c) :: k)) cs w) (lone (fr.atR a (.code c :: .inScope c :: k)) cs w) := .one (fenced_calm hfn hroom rfl) stepR_scope'
  cases e with
  | normal => exact ⟨.normal, a1, w1, ⟨s1, m1, hk, S1, L1⟩, .of_steps h0 (StepsIn.trans harr (.one (fenced_calm hfn hroom rfl) stepR_inScope'))⟩
  | exit id => exact ⟨.exit id, a1, w1, ⟨s1, m1, hk, S1, L1⟩, .of_steps h0 ⟨fun k' hk => harr.1 k' (by simp [exitTo, hk]), fun hr hk => harr.2 hr (by simp [exitTo, hk])⟩⟩
  | goto l => exact hk.elim
  | ret => exact ⟨_, a1, w1, ⟨s1, m1, hk, S1, L1⟩, .of_steps h0 harr⟩
  | panic ch => exact ⟨_, a1, w1, ⟨s1, m1, hk, S1, L1⟩, .of_steps h0 harr⟩
  | outgrown => exact ⟨_, a1, w1, ⟨s1, m1, hk, S1, L1⟩, .of_steps h0 harr⟩
end
end Go.Ab
