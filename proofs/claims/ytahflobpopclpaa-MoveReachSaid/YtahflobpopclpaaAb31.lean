import Derived.Test.YtahflobpopclpaaAb30
namespace Go.Ab
open Go Go.RowKit
set_option linter.unusedVariables false
set_option linter.unusedSimpArgs false
/-! ### what is run is so -/
def RepS (n : Nat) (sx : Sx) (s : St) : Prop := Rep sx.t s.t ∧ s.h = sx.h ∧ s.t.length = n
/-- The loop, taken up again behind a round. -/
def TL (P : Program) (b : Nat) (ro : Option Nat) (c : Code) (s : St) (K : Exit → St → Prop) : Prop :=
  ∀ (C : Ctx) (E0 : Env) (m : List Value) (a : Act) (w : World), E0.h.length = b → LeN E0 (env C s.h m w) → Sim C s m a w → ∀ (fr : Frame) (k : List Item) (cs : List Frame), fr.roundOf = (FW ro).round → (FW ro).fn fr.fn → (FW ro).room (cs.length + 1 + 0) →
    ∃ e a' w', Post C E0 K e a' w' ∧ ArrivesIn (Machine.fenced P (FW ro)) P (lone (fr.atR a (.inLoop c :: k)) cs w) fr k cs e a' w'
def againK (P : Program) (b : Nat) (ro : Option Nat) (c : Code) (K : Exit → St → Prop) : Exit → St → Prop
  | .normal, s => TL P b ro c s K
  | x, s => K x s
section
variable {P : Program} {b : Nat} {ro : Option Nat} {s : St} {K : Exit → St → Prop}
theorem TL_of {c : Code} (h : b ≤ s.h.length → T P b ro c s (againK P b ro c K)) : TL P b ro c s K := by
  intro C E0 m a w hb L S fr k cs hro hfn hroom
  have hle : b ≤ s.h.length := by have := L.len; simp only [env] at this; omega
  obtain ⟨e, a1, w1, ⟨s1, m1, hk, S1, L1⟩, harr⟩ := h hle C E0 m a w hb L S fr (.inLoop c :: k) cs hro hfn hroom
  have h0 : StepsIn (Machine.fenced P (FW ro)) P (lone (fr.atR a (.inLoop c :: k)) cs w) (lone (fr.atR a (.code c :: .inLoop c :: k)) cs w) := .one (fenced_calm hfn hroom rfl) stepR_inLoop
  cases e with
  | normal =>
    obtain ⟨e2, a2, w2, hq2, harr2⟩ := hk C E0 m1 a1 w1 hb L1 S1 fr k cs hro hfn hroom
    exact ⟨e2, a2, w2, hq2, .of_steps (StepsIn.trans h0 harr) harr2⟩
  | exit id => exact ⟨_, a1, w1, ⟨s1, m1, hk, S1, L1⟩, .of_steps h0 (.pass (x := .inLoop c) rfl (fun _ _ => .inl (by simp)) harr)⟩
  | goto l => exact ⟨_, a1, w1, ⟨s1, m1, hk, S1, L1⟩, .of_steps h0 (.pass (x := .inLoop c) rfl (fun _ _ => .inl (by simp)) harr)⟩
  | ret => exact ⟨_, a1, w1, ⟨s1, m1, hk, S1, L1⟩, .of_steps h0 (.pass (x := .inLoop c) rfl (fun _ _ => .inl (by simp)) harr)⟩
  | panic ch => exact ⟨_, a1, w1, ⟨s1, m1, hk, S1, L1⟩, .of_steps h0 (.pass (x := .inLoop c) rfl (fun _ _ => .inl (by simp)) harr)⟩
  | outgrown => exact ⟨_, a1, w1, ⟨s1, m1, hk, S1, L1⟩, .of_steps h0 (.pass (x := .inLoop c) rfl (fun _ _ => .inl (by simp)) harr)⟩
theorem T_of_again {c : Code} (h : b ≤ s.h.length → T P b ro c s (againK P b ro c K)) : T P b ro (.loop c) s K := by
  intro C E0 m a w hb L S fr k cs hro hfn hroom
  have hle : b ≤ s.h.length := by have := L.len; simp only [env] at this; omega
  obtain ⟨e, a1, w1, ⟨s1, m1, hk, S1, L1⟩, harr⟩ := h hle C E0 m a w hb L S fr (.inLoop c :: k) cs hro hfn hroom
  have h0 : StepsIn (Machine.fenced P (FW ro)) P (lone (fr.atR a (.code (.loop c) :: k)) cs w) (lone (fr.atR a (.code c :: .inLoop c :: k)) cs w) := .one (fenced_calm hfn hroom rfl) stepR_loop
  cases e with
  | normal =>
    obtain ⟨e2, a2, w2, hq2, harr2⟩ := hk C E0 m1 a1 w1 hb L1 S1 fr k cs hro hfn hroom
    exact ⟨e2, a2, w2, hq2, .of_steps (StepsIn.trans h0 harr) harr2⟩
  | exit id => exact ⟨_, a1, w1, ⟨s1, m1, hk, S1, L1⟩, .of_steps h0 (.pass (x := .inLoop c) rfl (fun _ _ => .inl (by simp)) harr)⟩
  | goto l => exact ⟨_, a1, w1, ⟨s1, m1, hk, S1, L1⟩, .of_steps h0 (.pass (x := .inLoop c) rfl (fun _ _ => .inl (by simp)) harr)⟩
  | ret => exact ⟨_, a1, w1, ⟨s1, m1, hk, S1, L1⟩, .of_steps h0 (.pass (x := .inLoop c) rfl (fun _ _ => .inl (by simp)) harr)⟩
  | panic ch => exact ⟨_, a1, w1, ⟨s1, m1, hk, S1, L1⟩, .of_steps h0 (.pass (x := .inLoop c) rfl (fun _ _ => .inl (by simp)) harr)⟩
  | outgrown => exact ⟨_, a1, w1, ⟨s1, m1, hk, S1, L1⟩, .of_steps h0 (.pass (x := .inLoop c) rfl (fun _ _ => .inl (by simp)) harr)⟩
/-! ### what is dropped -/
def Fg (t t2 : List V) : Prop := t2.length = t.length ∧ ∀ i : Nat, t2[i]? = t[i]? ∨ t2[i]? = some V.undef
theorem Fg.rel {E : Env} : ∀ {t t2 : List V} {us : List Value}, Fg t t2 → RelL E t us → RelL E t2 us
  | [], [], us, _, h => h
  | [], _ :: _, us, hf, h => by have := hf.1; simp at this
  | _ :: _, [], us, hf, h => by have := hf.1; simp at this
  | x :: t, y :: t2, us, hf, h => by
    simp only [RelL] at *
    obtain ⟨u, us', rfl, h1, h2⟩ := h
    refine ⟨u, us', rfl, ?_, Fg.rel (t := t) ⟨by have := hf.1; simpa using this, fun i => by have := hf.2 (i + 1); simpa using this⟩ h2⟩
    rcases hf.2 0 with h0 | h0
    · simp at h0; subst h0; exact h1
    · simp at h0; subst h0; simp only [Rel]
structure GcOk (n : Nat) (s1 s2 : St) : Prop where
  ok : s2 = s1 ∨ (n ≤ s1.h.length ∧ s2.h = s1.h.take n ∧ Fg s1.t s2.t ∧ V.allL (fun i => decide (i < n)) s2.t = true ∧ ∀ o ∈ s1.h.take n, o.all (fun i => decide (i < n)) = true)
theorem TL_gc {c : Code} {s1 s2 : St} {n : Nat} (hg : GcOk n s1 s2) (hb : b ≤ n) (h : TL P b ro c s2 K) : TL P b ro c s1 K := by
  rcases hg.ok with rfl | ⟨h1, h2, h3, h4, h5⟩
  · exact h
  · intro C E0 m a w hb0 L S
    have S1 : Sim C ⟨s2.t, s1.h⟩ m a w := ⟨S.below, S.out, S.len, h3.rel S.slots, S.defers, S.objs, S.apart, S.low⟩
    obtain ⟨S2, hL, _⟩ := S1.cut n h1 h4 h5
    have e : (⟨s2.t, s1.h.take n⟩ : St) = s2 := by rw [← h2]
    simp only at S2
    rw [e] at S2
    have L2 := hL E0 (by omega) L
    simp only at L2
    rw [← h2] at L2
    exact h C E0 (m.take n) a w hb0 L2 S2
end
/-! ### the tree and the list -/
theorem evT_eq {t : Tr} {s : St} (h : Rep t s.t) (x : Operand) : evT t x = ev s x := by
  cases x with
  | tmp i => exact h i
  | _ => rfl
theorem wantK_eq {ops : Array Oper} {t : Tr} {s : St} (h : Rep t s.t) (o : Oper) : wantK ops t o = wantedV ops s o := by
  unfold wantK wantedV
  cases hg : o.guard with
  | none => rfl
  | some g =>
    obtain ⟨j, want⟩ := g
    simp only [want2]
    cases hd : (ops[j]?).bind (·.dst) with
    | none => rfl
    | some d =>
      simp only
      rw [h d]
      cases s.t[d]? with
      | none => rfl
      | some v => cases v <;> rfl
theorem fPut_some {β : Type} {t : Tr} {tl : List V} (h : Rep t tl) {d : Option Tmp} {v : V} {k : Tr → Option β} {out : β} (hk : fPut t d v k = some out) : ∃ t', Rep t' (puts tl d v) ∧ k t' = some out := by
  cases d with
  | none => exact ⟨t, h, hk⟩
  | some d =>
    simp only [fPut] at hk
    obtain ⟨t', h1, h2⟩ := Rep.set (α := Option β) h d v
    rw [h1] at hk
    exact ⟨t', h2, hk⟩
theorem puts_length (t : List V) (d : Option Tmp) (v : V) : (puts t d v).length = t.length := by cases d <;> simp [puts]
/-- The function is one of the program's, and may be called. -/
def Callee (P : Program) (g : FuncId) : Prop := ∃ fn, P.funcs[g]? = some fn ∧ fn.body.isSome = true ∧ (fn.name == "runtime.NumGoroutine") = false
structure SoundI (P : Program) (I : Interp) : Prop where
  code : ∀ top b n c sx x sx', I.code top b n c sx = some (x, sx') → ∀ s, RepS n sx s → ∃ s', RepS n sx' s' ∧ ∀ ro K, (top = true → ro = none) → K x s' → T P b ro c s K
  loop : ∀ top b n c sx x sx', I.code top b n (.loop c) sx = some (x, sx') → ∀ s, RepS n sx s → ∃ s', RepS n sx' s' ∧ ∀ ro K, (top = true → ro = none) → K x s' → TL P b ro c s K
  data : ∀ g args r, I.data g args = some r → Ret P g args r ∧ Callee P g
  call : ∀ g args h r h', I.call g args h = some (r, h') → RetS P g args h r h' ∧ Callee P g
  yld : ∀ j vs h r h', I.yld j vs h = some (r, h') → RetY P j vs h r h'
theorem SoundI.bot (P : Program) : SoundI P Interp.bot := ⟨fun _ _ _ _ _ _ _ h => (by cases h), fun _ _ _ _ _ _ _ h => (by cases h), fun _ _ _ h => (by cases h), fun _ _ _ _ _ h => (by cases h), fun _ _ _ _ _ h => (by cases h)⟩
section
variable {P : Program} (F : Facts P) {I : Interp} (HI : SoundI P I)
include HI
theorem doK_some {β : Type} {ops : Array Oper} {i : Nat} {o : Oper} (ho : ops[i]? = some o) {t : Tr} {s : St} (h : Rep t s.t) {k : Tr → List AObj → Option β} {out : β} (hw : wantedV ops s o = some true) (hk : doK F I o t s.h k = some out) :
    ∃ t' s', StepR F ops i s s' ∧ Rep t' s'.t ∧ s'.t.length = s.t.length ∧ k t' s'.h = some out := by
  have hE := evT_eq h
  unfold doK at hk
  split at hk
  · rename_i r oh hop
    have hv := opG_sound F hE hop
    unfold putK at hk
    split at hk
    · obtain ⟨t', h1, h2⟩ := fPut_some h hk
      exact ⟨t', ⟨_, _⟩, .val ho hw hv, h1, puts_length _ _ _, h2⟩
    · obtain ⟨t', h1, h2⟩ := fPut_some h hk
      exact ⟨t', ⟨_, _⟩, .val ho hw hv, h1, puts_length _ _ _, h2⟩
    · obtain ⟨t', h1, h2⟩ := fPut_some h hk
      exact ⟨t', ⟨_, _⟩, .eff ho hw hv, h1, puts_length _ _ _, h2⟩
    · obtain ⟨t', h1, h2⟩ := fPut_some h hk
      exact ⟨t', ⟨_, _⟩, .eff ho hw hv, h1, puts_length _ _ _, h2⟩
  · unfold call0 at hk
    split at hk
    · rename_i x args hc
      obtain ⟨ts, hop⟩ := callOp_spec hc
      rw [evsG_eq hE, hE] at hk
      unfold callK at hk
      split at hk
      · rename_i g first caps vs hx ha
        split at hk
        · rename_i r h' hcall
          obtain ⟨hr, hb⟩ := HI.call _ _ _ _ _ hcall
          obtain ⟨t', h1, h2⟩ := fPut_some h hk
          exact ⟨t', ⟨_, _⟩, .call ho hw hop hx ha hb hr, h1, puts_length _ _ _, h2⟩
        · cases hk
      · rename_i j vs hx ha
        split at hk
        · rename_i r h' hcall
          have hr := HI.yld _ _ _ _ _ hcall
          obtain ⟨t', h1, h2⟩ := fPut_some h hk
          exact ⟨t', ⟨_, _⟩, .yld ho hw hop hx ha hr, h1, puts_length _ _ _, h2⟩
        · cases hk
      · cases hk
    · cases hk
theorem stepK_some {β : Type} {ops : Array Oper} {i : Nat} {o : Oper} (ho : ops[i]? = some o) {t : Tr} {s : St} (h : Rep t s.t) {k : Tr → List AObj → Option β} {out : β} (hk : stepK F I ops o t s.h k = some out) :
    ∃ t' s', StepR F ops i s s' ∧ Rep t' s'.t ∧ s'.t.length = s.t.length ∧ k t' s'.h = some out := by
  unfold stepK at hk
  rw [wantK_eq h] at hk
  split at hk
  · cases hk
  · rename_i hw
    obtain ⟨t', h1, h2⟩ := fPut_some h hk
    exact ⟨t', ⟨_, _⟩, .skip ho hw, h1, puts_length _ _ _, h2⟩
  · rename_i hw
    exact doK_some F HI ho h hw hk
omit HI in
theorem drop_head {ops : Array Oper} {k : Nat} {o : Oper} {l : List Oper} (h : ops.toList.drop k = o :: l) : ops[k]? = some o ∧ ops.toList.drop (k + 1) = l := by
  have h1 := congrArg (fun l => l[0]?) h
  have h2 := congrArg (List.drop 1) h
  simp only [List.getElem?_drop, Nat.add_zero, List.getElem?_cons_zero, Array.getElem?_toList] at h1
  exact ⟨h1, by simpa [List.drop_drop] using h2⟩
theorem opsK_some {ops : Array Oper} : ∀ (l : List Oper) (i : Nat) {t : Tr} {s : St} {sx : Sx}, ops.toList.drop i = l → Rep t s.t → opsK F I ops l t s.h = some sx → ∃ s', RunR F ops (List.range' i l.length) s s' ∧ RepS s.t.length sx s'
  | [], i, t, s, sx, hl, h, hk => by
    have : (some (⟨t, s.h⟩ : Sx)) = some sx := hk
    simp only [Option.some.injEq] at this; subst this
    exact ⟨s, .nil, h, rfl, rfl⟩
  | o :: l, i, t, s, sx, hl, h, hk => by
    have hk' : stepK F I ops o t s.h (opsK F I ops l) = some sx := hk
    obtain ⟨ho, hl'⟩ := drop_head hl
    obtain ⟨t1, s1, hs, h1, hlen, hk1⟩ := stepK_some F HI ho h hk'
    obtain ⟨s2, hr, h2⟩ := opsK_some l (i + 1) hl' h1 hk1
    rw [hlen] at h2
    refine ⟨s2, ?_, h2⟩
    rw [List.length_cons, List.range'_succ]
    exact .cons hs hr
end
end Go.Ab
namespace Go.Ab
open Go Go.RowKit
set_option linter.unusedVariables false
set_option linter.unusedSimpArgs false
section
variable {P : Program} (F : Facts P) {I : Interp} (HI : SoundI P I)
include HI
theorem dataK_some {β : Type} {f : Option V} {args : Option (List V)} {h : List AObj} {k : List V → V → Option β} {out : β} (hk : dataK I f args h k = some out) :
    ∃ g first caps vs dargs r, f = some (.fn g first caps) ∧ args = some vs ∧ convDL (fun b => b) h (first ++ vs ++ caps) = some dargs ∧ Ret P g dargs r ∧ Callee P g ∧ k (first ++ vs ++ caps) r = some out := by
  unfold dataK at hk
  split at hk
  · rename_i g first caps vs
    split at hk
    · rename_i dargs hc
      split at hk
      · rename_i r hr
        obtain ⟨h1, h2⟩ := HI.data _ _ _ hr
        exact ⟨g, first, caps, vs, dargs, r, rfl, rfl, hc, h1, h2, hk⟩
      · cases hk
    · cases hk
  · cases hk
theorem opsD_some {ops : Array Oper} {tab : Nat → Option (Nat × Bool)} {p : Nat → Nat → Bool} : ∀ (l : List Oper) (i : Nat) {t : Tr} {s : St} {sx : Sx}, ops.toList.drop i = l → Rep t s.t → opsD F I ops tab p l i t s.h = some sx →
    ∃ s', RepS s.t.length sx s' ∧ ∀ K : St → Prop, K s' → RegDL F ops tab p K (List.range' i l.length) s
  | [], i, t, s, sx, hl, h, hk => by
    have : (some (⟨t, s.h⟩ : Sx)) = some sx := hk
    simp only [Option.some.injEq] at this; subst this
    exact ⟨s, ⟨h, rfl, rfl⟩, fun K hK => hK⟩
  | o :: l, i, t, s, sx, hl, h, hk => by
    have hk' : stepD F I ops tab p i o t s.h (opsD F I ops tab p l (i + 1)) = some sx := hk
    obtain ⟨ho, hl'⟩ := drop_head hl
    have hE := evT_eq h
    rw [List.length_cons, List.range'_succ]
    have rest : ∀ (v : V) (h' : List AObj) {t1 : Tr}, Rep t1 (puts s.t o.dst v) → opsD F I ops tab p l (i + 1) t1 h' = some sx → ∃ s', RepS s.t.length sx s' ∧ ∀ K : St → Prop, K s' → RegDL F ops tab p K (List.range' (i + 1) l.length) ⟨puts s.t o.dst v, h'⟩ := fun v h' t1 h1 h2 => by
      obtain ⟨s', h3, h4⟩ := opsD_some l (i + 1) (s := ⟨puts s.t o.dst v, h'⟩) hl' h1 h2
      simp only [puts_length] at h3
      exact ⟨s', h3, h4⟩
    unfold stepD at hk'
    rw [wantK_eq h] at hk'
    split at hk'
    · cases hk'
    · rename_i hw
      obtain ⟨t1, h1, h2⟩ := fPut_some h hk'
      obtain ⟨s', h3, h4⟩ := rest _ _ h1 h2
      exact ⟨s', h3, fun K hK => ⟨o, .tup [], .none, ho, ⟨fun s2 _ h2 _ _ => .skip ho (h2.trans hw), fun _ _ he => by cases he⟩, trivial, h4 K hK⟩⟩
    · rename_i hw
      split at hk'
      · rename_i r oh hop
        have hv := opG_sound F hE hop
        split at hk'
        · rename_i hb
          have hEe : evT t = ev s := funext hE
          rw [hEe] at hb
          simp only [Bool.and_eq_true] at hb
          obtain ⟨eff, he, hL, hc⟩ := Local.of_op (tab := tab) (p := p) ho hw hv hb.1.1 hb.1.2 hb.2
          have fin : ∀ {t1 : Tr}, Rep t1 (puts s.t o.dst (r.getD (.tup []))) → opsD F I ops tab p l (i + 1) t1 (oh.getD s.h) = some sx → ∃ s', RepS s.t.length sx s' ∧ ∀ K : St → Prop, K s' → RegDL F ops tab p K (i :: List.range' (i + 1) l.length) s := fun h1 h2 => by
            obtain ⟨s', h3, h4⟩ := rest _ _ h1 h2
            refine ⟨s', h3, fun K hK => ⟨o, _, eff, ho, hL, hc, ?_⟩⟩
            rw [← he]; exact h4 K hK
          unfold putK at hk'
          split at hk'
          · obtain ⟨t1, h1, h2⟩ := fPut_some h hk'
            exact fin h1 h2
          · obtain ⟨t1, h1, h2⟩ := fPut_some h hk'
            exact fin h1 h2
          · obtain ⟨t1, h1, h2⟩ := fPut_some h hk'
            exact fin h1 h2
          · obtain ⟨t1, h1, h2⟩ := fPut_some h hk'
            exact fin h1 h2
        · cases hk'
      · split at hk'
        · rename_i x args hc
          obtain ⟨ts, hop⟩ := callOp_spec hc
          rw [evsG_eq hE, hE] at hk'
          obtain ⟨g, first, caps, vs, dargs, r, hx, ha, hcv, hr, hcal, hk2⟩ := dataK_some HI hk'
          split at hk2
          · rename_i hs
            obtain ⟨t1, h1, h2⟩ := fPut_some h hk2
            obtain ⟨s', h3, h4⟩ := rest _ _ h1 h2
            exact ⟨s', h3, fun K hK => D_call ho hw hop hx ha hcal hs hcv hr (h4 K hK)⟩
          · cases hk2
        · cases hk'
theorem regS_some {id : Nat} {ops : Array Oper} {draw : Bool} {t : Tr} {s : St} {sx : Sx} (h : Rep t s.t) (hk : regS F I ops draw t s.h = some sx) : ∃ s', RepS s.t.length sx s' ∧ ∀ b ro K, K .normal s' → T P b ro (.region id ops draw) s K := by
  unfold regS at hk
  have hdraw : ∀ {tab : Nat → Option (Nat × Bool)} {p : Nat → Nat → Bool}, lexD .any ops tab p ops.size 0 (Array.replicate ops.size false) = true → opsD F I ops tab p ops.toList 0 t s.h = some sx → ∃ s', RepS s.t.length sx s' ∧ ∀ b ro K, K .normal s' → T P b ro (.region id ops true) s K := fun hB hd => by
    obtain ⟨s', h1, h2⟩ := opsD_some F HI ops.toList 0 rfl h hd
    refine ⟨s', h1, fun b ro K hK => T_regionD (F := F) hB (RegDL.regD _ 0 ?_)⟩
    have := h2 (K .normal) hK
    simpa using this
  split at hk
  · obtain ⟨s', h1, h2⟩ := opsK_some F HI ops.toList 0 rfl h hk
    refine ⟨s', h2, fun b ro K hK => T_region (F := F) (s' := s') ?_ hK⟩
    rw [List.range_eq_range']
    simpa using h1
  · split at hk
    · rename_i hq
      simp only [quietB, Bool.and_eq_true] at hq
      exact hdraw hq.2 hk
    · unfold drawS at hk
      split at hk
      · split at hk
        · rename_i hB
          exact hdraw hB hk
        · cases hk
      · cases hk
end
/-! ### dropping -/
theorem forgetT_spec {γ : Type} (Kp : Nat → Bool) (n : Nat) : ∀ (t : Tr) (s b : Nat), ∃ t', (∀ k : Tr → γ, forgetT Kp n t s b k = k t') ∧ ∀ i, t'.get i = t.get i ∨ ((t.get i).isSome = true ∧ t'.get i = some .undef)
  | .e, s, b => ⟨.e, fun k => rfl, fun i => .inl rfl⟩
  | .lf v, s, b => by
    have hk : ∀ k : Tr → γ, forgetT Kp n (.lf v) s b k = (match Kp b with
      | true => k (.lf v)
      | false => fV0 (forget1 n v) fun v => k (.lf v)) := fun k => rfl
    cases hb : Kp b with
    | true => exact ⟨.lf v, fun k => by rw [hk, hb], fun i => .inl rfl⟩
    | false =>
      refine ⟨.lf (forget1 n v), fun k => by rw [hk, hb]; simp only [fV0_eq], fun i => ?_⟩
      simp only [get_lf]
      by_cases hi : i = 0
      · subst hi
        simp only [if_true]
        unfold forget1
        split
        · split
          · exact .inl rfl
          · exact .inr ⟨rfl, rfl⟩
        · exact .inl rfl
      · simp [hi]
  | .nd l r, s, b => by
    obtain ⟨l', h1, g1⟩ := forgetT_spec (γ := γ) Kp n l (2 * s) b
    obtain ⟨r', h2, g2⟩ := forgetT_spec (γ := γ) Kp n r (2 * s) (b + s)
    refine ⟨.nd l' r', fun k => ?_, fun i => ?_⟩
    · show (forgetT Kp n l (2 * s) b fun l => forgetT Kp n r (2 * s) (b + s) fun r => k (.nd l r)) = _
      rw [h1, h2]
    · simp only [get_nd]
      split
      · exact g1 _
      · exact g2 _
theorem allT_get (n : Nat) : ∀ (t : Tr), allT n t = true → ∀ i v, t.get i = some v → v.all (fun i => decide (i < n)) = true
  | .e, _, i, v, h => by simp [get_e] at h
  | .lf w, ha, i, v, h => by
    simp only [get_lf] at h
    split at h
    · simp only [Option.some.injEq] at h; subst h; exact ha
    · cases h
  | .nd l r, ha, i, v, h => by
    have ha' : (allT n l && allT n r) = true := ha
    simp only [Bool.and_eq_true] at ha'
    simp only [get_nd] at h
    split at h
    · exact allT_get n l ha'.1 _ v h
    · exact allT_get n r ha'.2 _ v h
theorem allL_of : ∀ (t : List V) {p : Nat → Bool}, (∀ v ∈ t, v.all p = true) → V.allL p t = true
  | [], p, h => by simp only [V.allL]
  | x :: t, p, h => by simp only [V.allL, h x (by simp), allL_of t (fun v hv => h v (by simp [hv])), Bool.and_self]
theorem gcK_some {Kp : Nat → Bool} {n m : Nat} {sx : Sx} {s : St} {β : Type} {k : Sx → Option β} {out : β} (h : RepS m sx s) (hk : gcK Kp n sx k = some out) : ∃ sx' s', RepS m sx' s' ∧ GcOk n s s' ∧ k sx' = some out := by
  obtain ⟨t, hh⟩ := sx
  obtain ⟨h1, h2, h3⟩ := h
  simp only at h1 h2
  simp only [gcK] at hk
  split at hk
  · exact ⟨⟨t, hh⟩, s, ⟨h1, h2, h3⟩, ⟨.inl rfl⟩, hk⟩
  · rename_i hlen
    obtain ⟨t', hf, hg⟩ := forgetT_spec (γ := Option β) Kp n t 1 0
    rw [hf] at hk
    split at hk
    · rename_i hc
      simp only [Bool.and_eq_true] at hc
      simp only [fH_eq] at hk
      have hget : ∀ i, t'.get i = (toL t' m)[i]? := fun i => by
        simp only [toL, List.getElem?_map]
        by_cases hi : i < m
        · rw [List.getElem?_range hi]
          simp only [Option.map_some]
          rcases hg i with h0 | ⟨h0, h00⟩
          · rw [h0, h1 i, List.getElem?_eq_getElem (by omega)]; rfl
          · rw [h00]; rfl
        · rw [List.getElem?_eq_none (by simp; omega)]
          simp only [Option.map_none]
          rcases hg i with h0 | ⟨h0, h00⟩
          · rw [h0, h1 i, List.getElem?_eq_none (by omega)]
          · rw [h1 i, List.getElem?_eq_none (by omega)] at h0; cases h0
      have hlen2 : (toL t' m).length = m := by simp [toL]
      refine ⟨⟨t', hh.take n⟩, ⟨toL t' m, s.h.take n⟩, ⟨hget, by rw [h2], hlen2⟩, ⟨.inr ⟨by rw [h2]; omega, rfl, ⟨by rw [hlen2, h3], fun i => ?_⟩, ?_, ?_⟩⟩, hk⟩
      · simp only
        rw [← hget i]
        rcases hg i with h0 | ⟨h0, h00⟩
        · exact .inl (h0.trans (h1 i))
        · exact .inr h00
      · refine allL_of _ fun v hv => ?_
        obtain ⟨i, hi⟩ := List.getElem?_of_mem hv
        rw [← hget i] at hi
        exact allT_get n t' hc.1 i v hi
      · rw [h2]
        intro o ho
        have := List.all_eq_true.1 hc.2 o ho
        exact this
    · exact ⟨⟨t, hh⟩, s, ⟨h1, h2, h3⟩, ⟨.inl rfl⟩, hk⟩
theorem leave_some {n : Nat} {r r' : V} {h h' : List AObj} (hk : leave n r h = some (r', h')) : r' = r ∧ ∃ n', n ≤ n' ∧ n' ≤ h.length ∧ h.take n' = h' ∧ r.all (fun i => decide (i < n')) = true ∧ ∀ o ∈ h', o.all (fun i => decide (i < n')) = true := by
  unfold leave at hk
  split at hk
  · rename_i hle
    split at hk
    · rename_i hc
      simp only [fV_eq, fH_eq, Option.some.injEq, Prod.mk.injEq] at hk
      simp only [Bool.and_eq_true] at hc
      obtain ⟨rfl, rfl⟩ := hk
      exact ⟨rfl, n, Nat.le_refl _, hle, rfl, hc.1, fun o ho => List.all_eq_true.1 hc.2 o ho⟩
    · split at hk
      · rename_i hc
        simp only [fV_eq, Option.some.injEq, Prod.mk.injEq] at hk
        simp only [Bool.and_eq_true] at hc
        obtain ⟨rfl, rfl⟩ := hk
        exact ⟨rfl, h.length, hle, Nat.le_refl _, List.take_length, hc.1, fun o ho => List.all_eq_true.1 hc.2 o ho⟩
      · cases hk
  · cases hk
end Go.Ab
namespace Go.Ab
open Go Go.RowKit
set_option linter.unusedVariables false
set_option linter.unusedSimpArgs false
theorem RepS.eq {n : Nat} {sx : Sx} {s : St} (h : RepS n sx s) : s = ⟨toL sx.t n, sx.h⟩ := by
  obtain ⟨h1, h2, h3⟩ := h
  obtain ⟨t, hh⟩ := s
  simp only at h1 h2 h3
  subst h2; subst h3
  rw [toL_rep h1]
section
variable {P : Program} (F : Facts P) {I : Interp} (HI : SoundI P I) (Kp : Nat → Bool)
include HI
/-- What running a piece of code tells. -/
def CodeOk (P : Program) (top : Bool) (b n : Nat) (c : Code) (f : Sx → Option (Exit × Sx)) : Prop :=
  ∀ sx x sx', f sx = some (x, sx') → ∀ s, RepS n sx s → ∃ s', RepS n sx' s' ∧ ∀ ro K, (top = true → ro = none) → K x s' → T P b ro c s K
theorem rangeS_ok (top : Bool) (b n : Nat) (g : Operand) (ps : Array Tmp) (as bd : Code) : CodeOk P top b n (.rangeFunc g ps as bd) (rangeK I top b n g ps as bd) := by
  rintro ⟨t, h⟩ x sx' hk s hs
  have hse := hs.eq
  obtain ⟨h1, h2, h3⟩ := hs
  simp only at h1 h2
  simp only [rangeK, rangeS] at hk
  split at hk
  · cases hk
  · split at hk
    · rename_i gf first caps hg
      rw [evT_eq h1] at hg
      rw [fL1_eq] at hk
      split at hk
      · rename_i r h' hcall
        obtain ⟨hr, hcal⟩ := HI.call _ _ _ _ _ hcall
        have htl : toL t n = s.t := by rw [← h3]; exact toL_rep h1
        rw [htl, ← h2] at hr
        rw [← h2] at hk
        split at hk
        · rename_i st pe tm ps' as' bd' ho
          have hst : ∀ {hk' : st ≠ .busy}, fH (h'.set s.h.length (.loop .exhausted pe tm ps' as' bd')) (fun h => contS I true b n t h pe) = some (x, sx') → ∃ s', RepS n sx' s' ∧ ∀ ro K, (true = true → ro = none) → K x s' → T P b ro (.rangeFunc g ps as bd) s K := by
            intro hne hk
            rw [fH_eq] at hk
            cases pe with
            | none =>
              simp only [contS, Option.some.injEq, Prod.mk.injEq] at hk
              obtain ⟨rfl, rfl⟩ := hk
              refine ⟨⟨s.t, h'.set s.h.length (.loop .exhausted none tm ps' as' bd')⟩, ⟨h1, rfl, h3⟩, fun ro K hro hK => ?_⟩
              rw [hro rfl]
              exact T_rangeFunc hg hcal hr ho hne hK
            | some c =>
              simp only [contS] at hk
              obtain ⟨s', h4, h5⟩ := HI.code _ _ _ _ _ _ _ hk ⟨s.t, h'.set s.h.length (.loop .exhausted (some c) tm ps' as' bd')⟩ ⟨h1, rfl, h3⟩
              refine ⟨s', h4, fun ro K hro hK => ?_⟩
              rw [hro rfl]
              exact T_rangeFunc hg hcal hr ho hne (h5 none K (fun _ => rfl) hK)
          split at hk
          · cases hk
          · rename_i hne
            exact hst (hk' := hne) hk
        · cases hk
      · cases hk
    · cases hk
theorem loopBody_ok (top : Bool) (b n : Nat) (c : Code) {f : Sx → Option (Exit × Sx)} (ih : CodeOk P top b n c f) : ∀ sx x sx', loopS Kp I top b n c f sx = some (x, sx') → ∀ s, RepS n sx s → ∃ s', RepS n sx' s' ∧ ∀ ro K, (top = true → ro = none) → K x s' → b ≤ s.h.length → T P b ro c s (againK P b ro c K) := by
  rintro ⟨t, h⟩ x sx' hk s hs
  have h2 := hs.2.1
  simp only at h2
  simp only [loopS, seqS] at hk
  split at hk
  · rename_i s1 hb
    obtain ⟨s1', h3, h4⟩ := ih _ _ _ hb s hs
    obtain ⟨sx2, s2, h5, h6, h7⟩ := gcK_some h3 hk
    obtain ⟨s', h8, h9⟩ := HI.loop _ _ _ _ _ _ _ h7 s2 h5
    refine ⟨s', h8, fun ro K hro hK hle => h4 ro _ hro ?_⟩
    show TL P b ro c s1' K
    exact TL_gc h6 (by rw [← h2]; exact hle) (h9 ro K hro hK)
  · rename_i hne
    obtain ⟨s', h3, h4⟩ := ih _ _ _ hk s hs
    refine ⟨s', h3, fun ro K hro hK hle => h4 ro _ hro ?_⟩
    cases x with
    | normal => exact absurd hk (hne _)
    | _ => exact hK
theorem codeS_ok (top : Bool) (b n : Nat) : ∀ c, CodeOk P top b n c (codeS F Kp I top b n c)
  | .skip => by
    intro sx x sx' hk s hs
    have : some (Exit.normal, sx) = some (x, sx') := hk
    simp only [Option.some.injEq, Prod.mk.injEq] at this
    obtain ⟨rfl, rfl⟩ := this
    exact ⟨s, hs, fun ro K _ hK => T_skip hK⟩
  | .exit id => by
    intro sx x sx' hk s hs
    have : some (Exit.exit id, sx) = some (x, sx') := hk
    simp only [Option.some.injEq, Prod.mk.injEq] at this
    obtain ⟨rfl, rfl⟩ := this
    exact ⟨s, hs, fun ro K _ hK => T_exit hK⟩
  | .ret => by
    intro sx x sx' hk s hs
    have : some (Exit.ret, sx) = some (x, sx') := hk
    simp only [Option.some.injEq, Prod.mk.injEq] at this
    obtain ⟨rfl, rfl⟩ := this
    exact ⟨s, hs, fun ro K _ hK => T_ret hK⟩
  | .label l => by
    intro sx x sx' hk s hs
    have : some (Exit.normal, sx) = some (x, sx') := hk
    simp only [Option.some.injEq, Prod.mk.injEq] at this
    obtain ⟨rfl, rfl⟩ := this
    exact ⟨s, hs, fun ro K _ hK => T_label hK⟩
  | .goto l => fun sx x sx' hk => by cases hk
  | .refuse w => fun sx x sx' hk => by cases hk
  | .region id ops draw => by
    rintro ⟨t, h⟩ x sx' hk s hs
    have hk' : regC (regS F I ops draw t h) = some (x, sx') := hk
    obtain ⟨h1, h2, h3⟩ := hs
    simp only at h1 h2
    rw [← h2] at hk'
    cases hr : regS F I ops draw t s.h with
    | none => rw [hr] at hk'; cases hk'
    | some sx1 =>
      rw [hr] at hk'
      obtain ⟨t1, hh1⟩ := sx1
      simp only [regC, Option.some.injEq, Prod.mk.injEq] at hk'
      obtain ⟨rfl, rfl⟩ := hk'
      obtain ⟨s', h4, h5⟩ := regS_some F HI (id := id) h1 hr
      rw [h3] at h4
      exact ⟨s', h4, fun ro K _ hK => h5 b ro K hK⟩
  | .seq x y => by
    intro sx e sx' hk s hs
    have hk' : seqS (codeS F Kp I top b n x sx) (codeS F Kp I top b n y) = some (e, sx') := hk
    unfold seqS at hk'
    split at hk'
    · rename_i s1 hx
      obtain ⟨s1', h1, h2⟩ := codeS_ok top b n x _ _ _ hx s hs
      obtain ⟨s', h3, h4⟩ := codeS_ok top b n y _ _ _ hk' s1' h1
      exact ⟨s', h3, fun ro K hro hK => T_seq (h2 ro _ hro (h4 ro K hro hK))⟩
    · rename_i hne
      obtain ⟨s', h1, h2⟩ := codeS_ok top b n x _ _ _ hk' s hs
      refine ⟨s', h1, fun ro K hro hK => T_seq (h2 ro _ hro ?_)⟩
      cases e with
      | normal => exact absurd hk' (hne _)
      | _ => exact hK
  | .cond c x y => by
    intro sx e sx' hk s hs
    have hk' : condS (evT sx.t c) (codeS F Kp I top b n x sx) (codeS F Kp I top b n y sx) = some (e, sx') := hk
    rw [evT_eq hs.1] at hk'
    unfold condS at hk'
    split at hk'
    · rename_i hc
      obtain ⟨s', h1, h2⟩ := codeS_ok top b n x _ _ _ hk' s hs
      exact ⟨s', h1, fun ro K hro hK => T_cond hc (by simpa using h2 ro K hro hK)⟩
    · rename_i hc
      obtain ⟨s', h1, h2⟩ := codeS_ok top b n y _ _ _ hk' s hs
      exact ⟨s', h1, fun ro K hro hK => T_cond hc (by simpa using h2 ro K hro hK)⟩
    · cases hk'
  | .block id c => by
    intro sx e sx' hk s hs
    have hk' : blockS id (codeS F Kp I top b n c sx) = some (e, sx') := hk
    unfold blockS at hk'
    split at hk'
    · rename_i j s1 hc
      obtain ⟨s', h1, h2⟩ := codeS_ok top b n c _ _ _ hc s hs
      split at hk'
      · rename_i hj
        simp only [Option.some.injEq, Prod.mk.injEq] at hk'
        obtain ⟨rfl, rfl⟩ := hk'
        exact ⟨s', h1, fun ro K hro hK => T_block (h2 ro _ hro (by simp only [blockK, hj, if_true]; exact hK))⟩
      · rename_i hj
        simp only [Option.some.injEq, Prod.mk.injEq] at hk'
        obtain ⟨rfl, rfl⟩ := hk'
        exact ⟨s', h1, fun ro K hro hK => T_block (h2 ro _ hro (by simp only [blockK, hj, if_false]; exact hK))⟩
    · rename_i hne
      obtain ⟨s', h1, h2⟩ := codeS_ok top b n c _ _ _ hk' s hs
      refine ⟨s', h1, fun ro K hro hK => T_block (h2 ro _ hro ?_)⟩
      cases e with
      | exit j => exact absurd hk' (hne _ _)
      | _ => exact hK
  | .scope c => by
    intro sx e sx' hk s hs
    have hk' : scopeS (codeS F Kp I top b n c sx) = some (e, sx') := hk
    unfold scopeS at hk'
    split at hk'
    · cases hk'
    · rename_i hne
      obtain ⟨s', h1, h2⟩ := codeS_ok top b n c _ _ _ hk' s hs
      refine ⟨s', h1, fun ro K hro hK => T_scope (h2 ro _ hro ?_)⟩
      cases e with
      | goto l => exact absurd hk' (hne _ _)
      | _ => exact hK
  | .loop c => by
    intro sx e sx' hk s hs
    have hk' : loopS Kp I top b n c (codeS F Kp I top b n c) sx = some (e, sx') := hk
    obtain ⟨s', h1, h2⟩ := loopBody_ok HI Kp top b n c (codeS_ok top b n c) _ _ _ hk' s hs
    exact ⟨s', h1, fun ro K hro hK => T_of_again (fun hle => h2 ro K hro hK hle)⟩
  | .rangeFunc g ps as bd => rangeS_ok HI top b n g ps as bd
theorem loopS_ok (top : Bool) (b n : Nat) (c : Code) : ∀ sx x sx', codeS F Kp I top b n (.loop c) sx = some (x, sx') → ∀ s, RepS n sx s → ∃ s', RepS n sx' s' ∧ ∀ ro K, (top = true → ro = none) → K x s' → TL P b ro c s K := by
  intro sx e sx' hk s hs
  have hk' : loopS Kp I top b n c (codeS F Kp I top b n c) sx = some (e, sx') := hk
  obtain ⟨s', h1, h2⟩ := loopBody_ok HI Kp top b n c (codeS_ok F HI Kp top b n c) _ _ _ hk' s hs
  exact ⟨s', h1, fun ro K hro hK => TL_of (fun hle => h2 ro K hro hK hle)⟩
/-- A body that was run. -/
theorem bodyS_some {β : Type} {fn : Func} {args : List V} {b : Nat} {h : List AObj} {k : Sx → Option β} {out : β} (hk : bodyS I fn args b h k = some out) :
    ∃ c x sx s', fn.body = some c ∧ (x = .normal ∨ x = .ret) ∧ RepS fn.ntmps sx s' ∧ k sx = some out ∧ ∀ K : Exit → St → Prop, K x s' → T P b none c ⟨enter fn args, h⟩ K := by
  unfold bodyS at hk
  split at hk
  · rename_i hn
    simp only [Bool.and_eq_true, decide_eq_true_eq] at hn
    split at hk
    · rename_i c hb
      obtain ⟨tr, h1, h2⟩ := enter_rep (α := Option (Exit × Sx)) fn args hn.1 hn.2
      rw [h1] at hk
      have hlen : (enter fn args).length = fn.ntmps := by simp [enter]; omega
      have main : ∀ x sx, (x = .normal ∨ x = .ret) → I.code true b fn.ntmps c ⟨tr, h⟩ = some (x, sx) → k sx = some out → ∃ c x sx s', fn.body = some c ∧ (x = .normal ∨ x = .ret) ∧ RepS fn.ntmps sx s' ∧ k sx = some out ∧ ∀ K : Exit → St → Prop, K x s' → T P b none c ⟨enter fn args, h⟩ K := fun x sx hx hc hk => by
        obtain ⟨s', h3, h4⟩ := HI.code _ _ _ _ _ _ _ hc ⟨enter fn args, h⟩ ⟨h2, rfl, hlen⟩
        exact ⟨c, x, sx, s', hb, hx, h3, hk, fun K hK => h4 none K (fun _ => rfl) hK⟩
      split at hk
      · rename_i s hc; exact main _ _ (.inl rfl) hc hk
      · rename_i s hc; exact main _ _ (.inr rfl) hc hk
      · cases hk
    · cases hk
  · cases hk
omit HI in
theorem resG_eq {fn : Func} {sx : Sx} {s : St} (h : RepS fn.ntmps sx s) : resG P fn sx.t sx.h = resV P fn s := by
  rw [h.eq]; rfl
theorem dataS_ok {X : FuncId → List V → Option V} (hX : ∀ g args r, X g args = some r → Ret P g args r ∧ Callee P g) (hN : ∀ (g : Nat) fn, P.funcs[g]? = some fn → (fn.name == "runtime.NumGoroutine") = false) (g : FuncId) (args : List V) (r : V) (hk : dataS (P := P) X I g args = some r) : Ret P g args r ∧ Callee P g := by
  unfold dataS at hk
  split at hk
  · rename_i r' hx
    simp only [Option.some.injEq] at hk; subst hk
    exact hX _ _ _ hx
  · split at hk
    · rename_i fn hf
      obtain ⟨c, x, sx, s', hb, hx, hs, hk2, hT⟩ := bodyS_some HI hk
      refine ⟨?_, fn, hf, by rw [hb]; rfl, hN _ _ hf⟩
      rw [resG_eq hs] at hk2
      split at hk2
      · rename_i r0 hr0
        split at hk2
        · rename_i r1 hr1
          simp only [fV_eq, Option.some.injEq] at hk2
          subst hk2
          refine Ret_introU hf hb (hT _ ⟨?_, r0, hr0, 4, ?_⟩)
          · rcases hx with rfl | rfl <;> trivial
          · rw [hs.2.1]; exact hr1
        · cases hk2
      · cases hk2
    · cases hk
end
end Go.Ab
namespace Go.Ab
open Go Go.RowKit
set_option linter.unusedVariables false
set_option linter.unusedSimpArgs false
theorem T_toQ {P : Program} {b : Nat} {ro : Option Nat} {c : Code} {s : St} {K : Exit → St → Prop} {i j n T T' sz : Nat} {cs : List V} {rows : List (List V)} (hi : s.h[i]? = some (.box T (.arr j n :: cs))) (hj : s.h[j]? = some (.arr T' sz rows false))
    (h : Ab.T P b ro c ⟨s.t, (s.h.set j (.que T' sz rows)).set i (.box T (.arrd j n 0 :: cs))⟩ K) : Ab.T P b ro c s K := by
  intro C E0 m a w hb L S
  have hne : i ≠ j := fun e => by subst e; rw [hi] at hj; cases hj
  have hil := (List.getElem?_eq_some_iff.1 hi).1
  have hjl := (List.getElem?_eq_some_iff.1 hj).1
  have gi : ((s.h.set j (.que T' sz rows)).set i (.box T (.arrd j n 0 :: cs)))[i]? = some (.box T (.arrd j n 0 :: cs)) := by
    rw [List.getElem?_set_self (by simpa using hil)]
  have gj : ((s.h.set j (.que T' sz rows)).set i (.box T (.arrd j n 0 :: cs)))[j]? = some (.que T' sz rows) := by
    rw [List.getElem?_set_ne hne, List.getElem?_set_self hjl]
  have gk : ∀ k, k ≠ i → k ≠ j → ((s.h.set j (.que T' sz rows)).set i (.box T (.arrd j n 0 :: cs)))[k]? = s.h[k]? := fun k h1 h2 => by
    rw [List.getElem?_set_ne (Ne.symm h1), List.getElem?_set_ne (Ne.symm h2)]
  generalize hh : (s.h.set j (.que T' sz rows)).set i (.box T (.arrd j n 0 :: cs)) = h' at *
  have hlen : h'.length = s.h.length := by rw [← hh]; simp
  have Le : Env.Le (fun _ => true) (env C s.h m w) (env C h' m w) := by
    refine ⟨fun b0 _ hbd => ?_, fun _ _ _ => rfl, Nat.le_refl _, fun _ _ _ h _ => h, fun k _ hk => ⟨by simp only [env] at *; omega, fun T1 sz1 rows1 fr1 ho => ?_⟩, fun k _ T1 sz1 rows1 ho => ?_⟩
    · rcases hbd with hbd | ⟨k, o, v, h1, h2, h3, h4⟩
      · exact .inl hbd
      · by_cases hki : k = i
        · subst hki; exact .inr ⟨k, _, v, hi, rfl, h3, h4⟩
        · by_cases hkj : k = j
          · subst hkj; exact .inr ⟨k, _, v, hj, rfl, h3, h4⟩
          · rw [gk k hki hkj] at h1; exact .inr ⟨k, o, v, h1, h2, h3, h4⟩
    · simp only [env] at ho hk ⊢
      by_cases hki : k = i
      · subst hki; rw [gi] at ho; cases ho
      · by_cases hkj : k = j
        · subst hkj; rw [gj] at ho; cases ho
        · rw [gk k hki hkj] at ho; exact ⟨_, _, _, ho, Nat.le_refl _, fun _ => trivial⟩
    · simp only [env] at ho ⊢
      have hki : k ≠ i := fun e => by subst e; rw [hi] at ho; cases ho
      have hkj : k ≠ j := fun e => by subst e; rw [hj] at ho; cases ho
      exact ⟨rows1, by rw [gk k hki hkj]; exact ho, Nat.le_refl _, fun _ => trivial⟩
  refine h C E0 m a w hb (L.trans (LeN.of (by simp [env, hlen]) Le)) ⟨S.below, S.out, by simpa [hlen] using S.len, S.slots.le Le, S.defers.le Le, fun k o v ho hv => ?_, S.apart, S.low⟩
  simp only at ho
  by_cases hki : k = i
  · subst hki
    rw [gi] at ho; cases ho
    obtain ⟨b0, vs, rfl, h1, h2, h3⟩ := S.objs k _ _ hi hv
    refine ⟨b0, vs, rfl, h1, h2, ?_⟩
    simp only [RelL] at h3 ⊢
    obtain ⟨u, us, he, hu, hus⟩ := h3
    refine ⟨u, us, he, ?_, hus.le Le⟩
    simp only [Rel, env] at hu ⊢
    obtain ⟨hle, hm⟩ := hu.2 _ _ _ _ hj
    refine ⟨T', sz, rows, gj, hle, fun hn => ?_⟩
    have hmj := hm hn
    obtain ⟨us', hown, _, _⟩ := S.objs j _ _ hj hmj
    obtain ⟨A, c0, rfl, hnc, _, hA, _⟩ := owns_shape hown
    refine ⟨A, c0, 0, by rw [hmj, hn]; simp, Nat.le_refl _, Nat.zero_le _, by omega, A, by rw [hn]; simp, ?_⟩
    cases A with
    | none =>
      rcases hown.2 with ⟨he, _⟩ | ⟨g, cap, cur, he, _⟩
      · simp only [Value.slice.injEq] at he; exact .inl (by omega)
      · simp at he
    | some ad =>
      obtain ⟨g, rfl⟩ := hA _ rfl
      exact .inr ⟨g, rfl, by simp⟩
  · by_cases hkj : k = j
    · subst hkj
      rw [gj] at ho; cases ho
      obtain ⟨us, h1, h2, h3⟩ := S.objs k _ _ hj hv
      exact ⟨us, 0, Nat.zero_le _, by simpa [env] using h1, by simpa using h2.le Le, h3⟩
    · rw [gk k hki hkj] at ho
      exact RelObj.keep Le (fun _ _ => rfl) (S.objs k o v ho hv)
section
variable {P : Program} (F : Facts P) {I : Interp} (HI : SoundI P I) (Kp : Nat → Bool)
include HI
omit HI in
theorem T_toQ' {b : Nat} {ro : Option Nat} {c : Code} {t : List V} {h : List AObj} {args : List V} {K : Exit → St → Prop} (hT : T P b ro c ⟨t, toQ h args⟩ K) : T P b ro c ⟨t, h⟩ K := by
  unfold toQ at hT
  split at hT
  · split at hT
    · rename_i hi
      split at hT
      · rename_i hj
        exact T_toQ (s := ⟨t, h⟩) hi hj hT
      · exact hT
    · exact hT
  · exact hT
theorem callS_ok {Q : FuncId → Bool} (hN : ∀ (g : Nat) fn, P.funcs[g]? = some fn → (fn.name == "runtime.NumGoroutine") = false) (g : FuncId) (args : List V) (h : List AObj) (r : V) (h' : List AObj) (hk : callS (P := P) Q I g args h = some (r, h')) : RetS P g args h r h' ∧ Callee P g := by
  unfold callS at hk
  split at hk
  · rename_i r1 hd
    simp only [fH_eq, Option.some.injEq, Prod.mk.injEq] at hk
    obtain ⟨rfl, rfl⟩ := hk
    cases hc : convDL (fun b => b) (frzD h args) args with
    | none => rw [hc] at hd; cases hd
    | some dargs =>
      rw [hc] at hd
      obtain ⟨h1, h2⟩ := HI.data _ _ _ hd
      exact ⟨Ret.shared h1 rfl hc, h2⟩
  · split at hk
    · rename_i fn hf
      rw [fH_eq] at hk
      obtain ⟨c, x, sx, s', hb, hx, hs, hk2, hT⟩ := bodyS_some HI hk
      refine ⟨?_, fn, hf, by rw [hb]; rfl, hN _ _ hf⟩
      rw [resG_eq hs] at hk2
      split at hk2
      · rename_i r0 hr0
        obtain ⟨rfl, n', h1, h2, h3, h4, h5⟩ := leave_some hk2
        have hTT : T P h.length none c ⟨enter fn args, h⟩ (fun x s => (match x with | .normal | .ret => True | _ => False) ∧ resV P fn s = some r ∧ ∃ n, h.length ≤ n ∧ n ≤ s.h.length ∧ s.h.take n = h' ∧ r.all (fun i => decide (i < n)) = true ∧ ∀ o ∈ h', o.all (fun i => decide (i < n)) = true) := by
          have hbody := hT (fun x s => (match x with | .normal | .ret => True | _ => False) ∧ resV P fn s = some r ∧ ∃ n, h.length ≤ n ∧ n ≤ s.h.length ∧ s.h.take n = h' ∧ r.all (fun i => decide (i < n)) = true ∧ ∀ o ∈ h', o.all (fun i => decide (i < n)) = true)
            ⟨by rcases hx with rfl | rfl <;> trivial, hr0, n', h1, by rw [hs.2.1]; exact h2, by rw [hs.2.1]; exact h3, h4, h5⟩
          split at hbody
          · exact T_toQ' hbody
          · exact hbody
        exact RetS_intro hf hb hTT
      · cases hk2
    · cases hk
omit HI in
theorem zipSet_length : ∀ (ps : List Tmp) (t as : List V), (zipSet t ps as).length = t.length
  | [], t, as => by simp [zipSet]
  | p :: ps, t, [] => by simp [zipSet]
  | p :: ps, t, a :: as => by simp [zipSet, zipSet_length ps]
theorem yldS_ok (j : Nat) (vs : List V) (h : List AObj) (r : V) (h' : List AObj) (hk : yldS I j vs h = some (r, h')) : RetY P j vs h r h' := by
  unfold yldS at hk
  split at hk
  · rename_i pe tm ps as bd ho
    split at hk
    · rename_i hc
      simp only [Bool.and_eq_true, beq_iff_eq, decide_eq_true_eq] at hc
      obtain ⟨tr, h1, h2⟩ := setL_rep (α := Option (Exit × Sx)) (zipSet tm ps.toList vs) 0 _ _ (mkTr_rep tm.length hc.2)
      rw [h1] at hk
      have hz := zipSet_length ps.toList tm vs
      have hrep : Rep tr (zipSet tm ps.toList vs) := by
        have e : (List.replicate tm.length V.undef).take 0 ++ (zipSet tm ps.toList vs ++ (List.replicate tm.length V.undef).drop (0 + (zipSet tm ps.toList vs).length)).take ((List.replicate tm.length V.undef).length - 0) = zipSet tm ps.toList vs := by
          simp only [List.take_zero, List.nil_append, Nat.zero_add, List.length_replicate, Nat.sub_zero, hz]
          rw [List.drop_eq_nil_of_le (by simp), List.append_nil, List.take_of_length_le (by omega)]
        rw [e] at h2; exact h2
      split at hk
      · rename_i s1 has
        obtain ⟨s1', h3, h4⟩ := HI.code _ _ _ _ _ _ _ has ⟨zipSet tm ps.toList vs, h⟩ ⟨hrep, rfl, hz⟩
        split at hk
        · rename_i pe1 tm1 ps1 as1 bd1 ho1
          rw [fH_eq] at hk
          split at hk
          · rename_i x s2 hbd
            obtain ⟨s2', h5, h6⟩ := HI.code _ _ _ _ _ _ _ hbd ⟨s1'.t, s1.h.set j (.loop .busy pe1 tm1 ps1 as1 bd1)⟩ ⟨h3.1, rfl, h3.2.2⟩
            split at hk
            · rename_i jump hx
              split at hk
              · rename_i pe2 tm2 ps2 as2 bd2 ho2
                obtain ⟨rfl, n', k1, k2, k3, k4, k5⟩ := leave_some hk
                refine RetY_intro ho (by simpa using hc.1) (fun ro => h4 ro _ (fun hh => by cases hh) ⟨rfl, pe1, tm1, ps1, as1, bd1, by rw [h3.2.1]; exact ho1, ?_⟩)
                rw [h3.2.1]
                refine h6 ro _ (fun hh => by cases hh) ⟨jump, pe2, tm2, ps2, as2, bd2, n', hx, by rw [h5.2.1]; exact ho2, rfl, k1, by rw [h5.2.1]; simpa using k2, by rw [h5.2.1]; exact k3, k5⟩
              · cases hk
            · cases hk
          · cases hk
        · cases hk
      · cases hk
    · cases hk
  · cases hk
theorem SoundI.step {X : FuncId → List V → Option V} {Q : FuncId → Bool} (hX : ∀ g args r, X g args = some r → Ret P g args r ∧ Callee P g) (hN : ∀ (g : Nat) fn, P.funcs[g]? = some fn → (fn.name == "runtime.NumGoroutine") = false) : SoundI P (Interp.step F Kp X Q I) where
  code top b n c := codeS_ok F HI Kp top b n c
  loop top b n c := loopS_ok F HI Kp top b n c
  data := dataS_ok HI hX hN
  call := callS_ok HI hN
  yld := yldS_ok HI
end
theorem Interp.sound {P : Program} (F : Facts P) (Kp : Nat → Bool) {X : FuncId → List V → Option V} {Q : FuncId → Bool} (hX : ∀ g args r, X g args = some r → Ret P g args r ∧ Callee P g) (hN : ∀ (g : Nat) fn, P.funcs[g]? = some fn → (fn.name == "runtime.NumGoroutine") = false) : ∀ n, SoundI P (Interp.run F Kp X Q n)
  | 0 => SoundI.bot P
  | n + 1 => SoundI.step F (Interp.sound F Kp hX hN n) Kp hX hN
/-- What is run on data is so. -/
theorem Ret.of_run {P : Program} (F : Facts P) (Kp : Nat → Bool) {X : FuncId → List V → Option V} (Q : FuncId → Bool) (n : Nat) (hX : ∀ g args r, X g args = some r → Ret P g args r ∧ Callee P g) (hN : ∀ (g : Nat) fn, P.funcs[g]? = some fn → (fn.name == "runtime.NumGoroutine") = false) {g : FuncId} {args : List V} {r : V}
    (h : (Interp.run F Kp X Q n).data g args = some r) : Ret P g args r := ((Interp.sound F Kp hX hN n).data g args r h).1
end Go.Ab
