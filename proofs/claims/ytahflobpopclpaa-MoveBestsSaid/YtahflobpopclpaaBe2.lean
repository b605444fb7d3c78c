import Derived.Test.YtahflobpopclpaaBe1
import Derived.OrdersIn
import Derived.Laws.StructEq
import Derived.ChangeKeysEq
import Derived.Laws.BitsLemmas
import Derived.Deep.Slices
import Derived.ChangeArms
import Derived.Test.YtahflobpopclpaaProg
import Derived.KernelRfl
set_option linter.unusedVariables false
set_option linter.unusedSimpArgs false
namespace Go.Ab
open Go Go.RowKit
set_option linter.unusedVariables false

theorem StepR.soundOp {P : Program} {F : Facts P} {ops : Array Oper} {i : Nat} {s s' : St} (h : StepR F ops i s s') (ro : Option Nat) {C : Ctx} {m : List Value} {a : Act} {w : World} (S : Sim C s m a w) {K : Act → World → Prop} {Q : Exit → Act → World → Prop}
    (k : ∀ m' a' w', Sim C s' m' a' w' → LeN (env C s.h m w) (env C s'.h m' w') → K a' w') : wpOpIn (FW ro) 0 P ops Q i K a w := by
  unfold wpOpIn
  cases h with
  | skip ho hw =>
    simp only [ho, wantedV_sound S hw, Bool.false_eq_true, if_false]
    exact ⟨fun _ _ => trivial, k m _ w (S.puts _ rel_undef) (LeN.refl _)⟩
  | @val o v h' ho hw hop =>
    simp only [ho, wantedV_sound S hw, if_true, Oper.wpIn]
    obtain ⟨m', w', S', hU, u, hrun, hR⟩ := opV_sound F S o hop
    refine ⟨fun _ _ => trivial, ?_⟩
    rw [Oper.semAt_eq _ _ _ (fun c hc => by simp [hc, opV] at hop), hrun]
    exact k m' _ w' (S'.puts _ hR) hU.leN
  | @eff o h' ho hw hop =>
    simp only [ho, wantedV_sound S hw, if_true, Oper.wpIn]
    obtain ⟨m', w', S', hU, hrun⟩ := opV_sound F S o hop
    refine ⟨fun _ _ => trivial, ?_⟩
    rw [Oper.semAt_eq _ _ _ (fun c hc => by simp [hc, opV] at hop), hrun]
    exact k m' _ w' (S'.puts _ rel_undef) hU.leN
  | @call o x args ts g first caps vs r h' ho hw hop hx ha hb hr =>
    simp only [ho, wantedV_sound S hw, if_true, Oper.wpIn]
    refine ⟨fun _ _ => trivial, ?_⟩
    rw [Oper.semAt_eq _ _ _ (fun c hc => by simp [hc] at hop)]
    have hRx := ev_sound S hx
    simp only [Rel] at hRx
    obtain ⟨fa, ca, he, h1, h2⟩ := hRx
    have hRa := evs_sound S ha
    obtain ⟨fn, hfn, hbody, hname⟩ := hb
    have hnb : ¬ fn.body = none := fun e => by simp [e] at hbody
    have hne : ¬ fn.name = "runtime.NumGoroutine" := by simpa using hname
    have hcf : ∀ cargs, (callFunc g cargs).run P w = .ok (.enter g cargs) w := fun cargs => by
      simp [callFunc, hfn, hne, hnb]
    have hrun : (execOp a.eval o).run P w = .ok (.enter g (fa ++ args.map a.eval ++ ca)) w := by
      simp [execOp, hop, resolve, he, Deferred.ofValue, invoke, hcf]
    rw [hrun]
    refine ⟨fun h => by simp [FW, Fence.wide] at h, Calls.inFW ro _ ?_⟩
    have hargs : RelL (env C s.h m w) (first ++ vs ++ caps) (fa ++ args.map a.eval ++ ca).toList := by
      simp only [Array.toList_append, Array.toList_map]
      exact (h1.append hRa).append h2
    refine Calls.mono (hr C s.t m a w _ S hargs) ?_
    rintro e w' ⟨v, m', rfl, S', hR, hL⟩
    exact k m' _ w' (S'.puts _ hR) hL
  | @yld o x args ts j vs r h' ho hw hop hx ha hr =>
    simp only [ho, wantedV_sound S hw, if_true, Oper.wpIn]
    refine ⟨fun _ _ => trivial, ?_⟩
    rw [Oper.semAt_eq _ _ _ (fun c hc => by simp [hc] at hop)]
    have hRx := ev_sound S hx
    simp only [Rel] at hRx
    obtain ⟨b, hm, he⟩ := hRx
    obtain ⟨fn, tmps, asg, bd, hy, hround⟩ := hr C s.t m a w (args.map a.eval) ro b S (by simpa using evs_sound S ha) hm
    have hrun : (execOp a.eval o).run P w = .ok (.round b fn tmps asg bd) w := by
      simp [execOp, hop, resolve, he, Deferred.ofValue, invoke, hy]
    rw [hrun]
    refine ⟨fun h => by simp [FW, Fence.wide] at h, hround.mono ?_⟩
    rintro e w' ⟨v, m', rfl, S', hR, hL⟩
    exact k m' _ w' (S'.puts _ hR) hL

/-! ### an operation, told by what it looks at -/
structure Local {P : Program} (F : Facts P) (ops : Array Oper) (p : Nat → Bool) (i : Nat) (o : Oper) (s : St) (v : V) (eff : Eff) : Prop where
  run : ∀ s2 : St, (∀ x ∈ o.op.operands, ev s2 x = ev s x) → wantedV ops s2 o = wantedV ops s o → Same p s.h s2.h → (eff.grows = true → s2.h.length = s.h.length) → StepR F ops i s2 ⟨puts s2.t o.dst v, eff.app s2.h⟩
  tgt : ∀ a o', eff = .set a o' → p a = true ∧ a < s.h.length
theorem Local.move {P : Program} {F : Facts P} {ops : Array Oper} {p : Nat → Bool} {i : Nat} {o : Oper} {s s2 : St} {v : V} {eff : Eff} (L : Local F ops p i o s v eff) (h1 : ∀ x ∈ o.op.operands, ev s2 x = ev s x) (h2 : wantedV ops s2 o = wantedV ops s o)
    (h3 : Same p s.h s2.h) (h4 : eff.grows = true → s2.h.length = s.h.length) : Local F ops p i o s2 v eff := by
  refine ⟨fun s3 k1 k2 k3 k4 => L.run s3 (fun x hx => (k1 x hx).trans (h1 x hx)) (k2.trans h2) (fun j hj => (k3 j hj).trans (h3 j hj)) (fun g => (k4 g).trans (h4 g)), fun a o' he => ?_⟩
  obtain ⟨hp, hl⟩ := L.tgt a o' he
  refine ⟨hp, ?_⟩
  have := h3 a hp
  rw [List.getElem?_eq_getElem hl] at this
  exact (List.getElem?_eq_some_iff.1 this).1
def conf (tab : Nat → Option (Nat × Bool)) (i : Nat) (s : St) : Eff → Prop
  | .none => True
  | .set a _ => tab i = some (a, false)
  | .push _ => tab i = some (s.h.length, true)
/-- Whatever order is picked. -/
def AnyD {P : Program} (F : Facts P) (ops : Array Oper) (tab : Nat → Option (Nat × Bool)) (p : Nat → Nat → Bool) (md : Region.Mode) (K : St → Prop) : Nat → Array Bool → St → Prop
  | 0, listed, s => Region.ready md ops listed = [] ∧ K s
  | fuel + 1, listed, s => (Region.ready md ops listed = [] → K s) ∧
    ∀ i ∈ Region.ready md ops listed, ∃ o v eff, ops[i]? = some o ∧ Local F ops (p i) i o s v eff ∧ conf tab i s eff ∧ AnyD F ops tab p md K fuel (listed.setIfInBounds i true) ⟨puts s.t o.dst v, eff.app s.h⟩
theorem AnyD.sound {P : Program} {F : Facts P} {ops : Array Oper} {tab : Nat → Option (Nat × Bool)} {p : Nat → Nat → Bool} {md : Region.Mode} {K : St → Prop} (ro : Option Nat) {C : Ctx} {Q : Exit → Act → World → Prop} : ∀ (fuel : Nat) {listed : Array Bool} {s : St} {m : List Value} {a : Act} {w : World},
    AnyD F ops tab p md K fuel listed s → Sim C s m a w → (∀ s' m' a' w', K s' → Sim C s' m' a' w' → LeN (env C s.h m w) (env C s'.h m' w') → Q .normal a' w') → wpAnyIn (FW ro) 0 P md ops Q fuel listed a w
  | 0, listed, s, m, a, w, h, S, k => ⟨h.1, k s m a w h.2 S (LeN.refl _)⟩
  | fuel + 1, listed, s, m, a, w, h, S, k => by
    refine ⟨fun h0 => k s m a w (h.1 h0) S (LeN.refl _), fun i hi => ?_⟩
    obtain ⟨o, v, eff, ho, L, _, hK⟩ := h.2 i hi
    exact (L.run s (fun _ _ => rfl) rfl (fun _ _ => rfl) (fun _ => rfl)).soundOp ro S (fun m1 a1 w1 S1 L1 => AnyD.sound ro fuel hK S1 (fun s' m' a' w' hk S' L' => k s' m' a' w' hk S' (L1.trans L')))
/-! ### two operations that are apart -/
theorem ev_puts {t : List V} {h h2 : List AObj} {d : Option Tmp} {v : V} {x : Operand} (hx : ∀ k, d = some k → x ≠ .tmp k) : ev ⟨puts t d v, h⟩ x = ev ⟨t, h2⟩ x := by
  cases x with
  | tmp k =>
    cases d with
    | none => rfl
    | some d =>
      have : d ≠ k := fun e => hx d rfl (by rw [e])
      simp only [ev, puts]
      exact List.getElem?_set_ne this
  | _ => rfl
theorem looks_operands {ops : Array Oper} {o : Oper} {d : Option Tmp} (h : ∀ k, d = some k → k ∉ o.looksAt ops) {x : Operand} (hx : x ∈ o.op.operands) : ∀ k, d = some k → x ≠ .tmp k := fun k hk e => h k hk (by
  subst e
  exact List.mem_append_left _ (List.mem_filterMap.2 ⟨.tmp k, by simpa using hx, rfl⟩))
theorem wantedV_puts {ops : Array Oper} {o : Oper} {t : List V} {h h2 : List AObj} {d : Option Tmp} {v : V} (hd : ∀ k, d = some k → k ∉ o.looksAt ops) : wantedV ops ⟨puts t d v, h⟩ o = wantedV ops ⟨t, h2⟩ o := by
  unfold wantedV
  cases hg : o.guard with
  | none => rfl
  | some gw =>
    obtain ⟨g, want⟩ := gw
    simp only
    cases hb : (ops[g]?).bind (·.dst) with
    | none => rfl
    | some k =>
      have : (puts t d v)[k]? = t[k]? := by
        cases d with
        | none => rfl
        | some d =>
          have hne : d ≠ k := fun e => hd d rfl (List.mem_append_right _ (by simp only [hg, hb]; simp [e]))
          simp only [puts]
          exact List.getElem?_set_ne hne
      simp only [this]
def compat (tab : Nat → Option (Nat × Bool)) (p : Nat → Nat → Bool) (i j : Nat) : Bool :=
  (match tab i with
    | some (a, g) => !p j a && !(g && match tab j with | some (_, g') => g' | none => false)
    | none => true) &&
  (match tab j with
    | some (a, _) => !p i a
    | none => true)
theorem Eff.same {p : Nat → Bool} {tab : Nat → Option (Nat × Bool)} {i : Nat} {s : St} {eff : Eff} (hc : conf tab i s eff) (hp : ∀ a g, tab i = some (a, g) → p a = false) : Same p s.h (eff.app s.h) := fun b hb => by
  cases eff with
  | none => rfl
  | set a o =>
    have := hp a _ hc
    have hne : a ≠ b := fun e => by rw [e, hb] at this; cases this
    exact List.getElem?_set_ne hne
  | push o =>
    have := hp _ _ hc
    have hne : s.h.length ≠ b := fun e => by rw [e, hb] at this; cases this
    simp only [Eff.app]
    rcases Nat.lt_or_ge b s.h.length with h | h
    · exact List.getElem?_append_left h
    · rw [List.getElem?_eq_none (by simp; omega), List.getElem?_eq_none (by omega)]
theorem Same.symm {p : Nat → Bool} {h h2 : List AObj} (S : Same p h h2) : Same p h2 h := fun i hi => (S i hi).symm
theorem Eff.length_le {eff : Eff} {h : List AObj} (hg : eff.grows = false) : (eff.app h).length = h.length := by
  cases eff <;> simp_all [Eff.app, Eff.grows]
/-- Does j wait for i, at one remove or more? -/
def reachD (md : Region.Mode) (ops : Array Oper) (i : Nat) : Nat → Nat → Bool
  | 0, _ => false
  | f + 1, j => match ops[j]? with
    | some o => o.after.any fun e => Region.binds md e && (e.on == i || reachD md ops i f e.on)
    | none => false
/-- Which operations wait for i: found in one pass; the last one first. -/
def bkGo (md : Region.Mode) (i : Nat) : List Oper → Nat → List Bool → List Bool
  | [], _, acc => acc
  | o :: os, n, acc => match o.after.any (fun e => Region.binds md e && (e.on == i || (decide (e.on < n) && (acc[n - 1 - e.on]?).getD false))) with
    | true => bkGo md i os (n + 1) (true :: acc)
    | false => bkGo md i os (n + 1) (false :: acc)
def bkRow (md : Region.Mode) (ops : Array Oper) (i : Nat) : List Bool := bkGo md i ops.toList 0 []
def bkD (md : Region.Mode) (ops : Array Oper) (i j : Nat) : Bool := decide (j < ops.size) && ((bkRow md ops i)[ops.size - 1 - j]?).getD false
theorem bkGo_spec {md : Region.Mode} {ops : Array Oper} {i : Nat} : ∀ (os : List Oper) (n : Nat) (acc : List Bool), ops.toList.drop n = os → acc.length = n → (∀ j, j < n → acc[n - 1 - j]? = some true → ∃ f, reachD md ops i f j = true) →
    (bkGo md i os n acc).length = n + os.length ∧ ∀ j, j < n + os.length → (bkGo md i os n acc)[n + os.length - 1 - j]? = some true → ∃ f, reachD md ops i f j = true
  | [], n, acc, h, hl, ha => by simpa [bkGo, hl] using ha
  | o :: os, n, acc, h, hl, ha => by
    have ho : ops[n]? = some o := by
      have := congrArg (fun l => l[0]?) h
      simp only [List.getElem?_drop, Nat.add_zero, List.getElem?_cons_zero, Array.getElem?_toList] at this
      exact this
    have hd : ops.toList.drop (n + 1) = os := by
      have := congrArg (List.drop 1) h
      simpa [List.drop_drop] using this
    have key : ∀ b : Bool, (b = true → ∃ f, reachD md ops i f n = true) → (bkGo md i os (n + 1) (b :: acc)).length = n + (o :: os).length ∧ ∀ j, j < n + (o :: os).length → (bkGo md i os (n + 1) (b :: acc))[n + (o :: os).length - 1 - j]? = some true → ∃ f, reachD md ops i f j = true := fun b hb => by
      have := bkGo_spec os (n + 1) (b :: acc) hd (by simp [hl]) (fun j hj hg => by
        by_cases hjn : j = n
        · subst hjn
          rw [show j + 1 - 1 - j = 0 by omega] at hg
          simp only [List.getElem?_cons_zero, Option.some.injEq] at hg
          exact hb hg
        · rw [show n + 1 - 1 - j = (n - 1 - j) + 1 by omega, List.getElem?_cons_succ] at hg
          exact ha j (by omega) hg)
      rw [show n + (o :: os).length = n + 1 + os.length by simp; omega]
      exact this
    simp only [bkGo]
    split
    · rename_i hany
      refine key true fun _ => ?_
      obtain ⟨e, he, hb⟩ := Array.any_eq_true'.1 hany
      simp only [Bool.and_eq_true, Bool.or_eq_true, beq_iff_eq, decide_eq_true_eq] at hb
      rcases hb.2 with h1 | ⟨h1, h2⟩
      · refine ⟨1, ?_⟩
        simp only [reachD, ho]
        exact Array.any_eq_true'.2 ⟨e, he, by simp [hb.1, h1]⟩
      · obtain ⟨f, hf⟩ := ha e.on h1 (by
          cases hg : acc[n - 1 - e.on]? with
          | none => simp [hg] at h2
          | some b => simp [hg] at h2; rw [h2])
        refine ⟨f + 1, ?_⟩
        simp only [reachD, ho]
        exact Array.any_eq_true'.2 ⟨e, he, by simp [hb.1, hf]⟩
    · exact key false (fun h => by cases h)
theorem bkD_spec {md : Region.Mode} {ops : Array Oper} {i j : Nat} (h : bkD md ops i j = true) : ∃ f, reachD md ops i f j = true := by
  simp only [bkD, Bool.and_eq_true, decide_eq_true_eq] at h
  obtain ⟨hj, hg⟩ := h
  have := (bkGo_spec (md := md) (ops := ops) (i := i) ops.toList 0 [] rfl rfl (fun j hj => by omega)).2 j (by simpa using hj)
  simp only [Nat.zero_add, Array.length_toList] at this
  refine this ?_
  cases hb : (bkGo md i ops.toList 0 [])[ops.size - 1 - j]? with
  | none => simp [bkRow, hb] at hg
  | some b => simp [bkRow, hb] at hg; rw [hg]
def Bk (md : Region.Mode) (ops : Array Oper) (i j : Nat) : Prop := j = i ∨ ∃ f, reachD md ops i f j = true
theorem Bk.step {md : Region.Mode} {ops : Array Oper} {i j : Nat} {oj : Oper} (h : Bk md ops i j) (hj : ops[j]? = some oj) (hne : j ≠ i) : ∃ e ∈ oj.after, Region.binds md e = true ∧ Bk md ops i e.on := by
  rcases h with h | ⟨f, h⟩
  · exact absurd h hne
  · cases f with
    | zero => cases h
    | succ f =>
      simp only [reachD, hj] at h
      obtain ⟨e, he, hb⟩ := Array.any_eq_true'.1 h
      simp only [Bool.and_eq_true, Bool.or_eq_true, beq_iff_eq] at hb
      refine ⟨e, he, hb.1, ?_⟩
      rcases hb.2 with h1 | h1
      · exact .inl h1
      · exact .inr ⟨f, h1⟩
theorem AnyD.first {P : Program} {F : Facts P} {ops : Array Oper} {tab : Nat → Option (Nat × Bool)} {p : Nat → Nat → Bool} {md : Region.Mode} {K : St → Prop} {i : Nat} {oi : Oper} {v : V} {ei : Eff} (hi : ops[i]? = some oi) :
    ∀ (fuel : Nat) (listed : Array Bool) (s : St),
      (∀ j oj, ops[j]? = some oj → Bk md ops i j → listed.getD j true = false) →
      (∀ j oj, ops[j]? = some oj → j ≠ i → listed.getD j true = false → ¬ Bk md ops i j → oi.apart ops oj = true ∧ compat tab p i j = true) →
      i ∈ Region.ready md ops listed → Local F ops (p i) i oi s v ei → conf tab i s ei →
      AnyD F ops tab p md K fuel (listed.setIfInBounds i true) ⟨puts s.t oi.dst v, ei.app s.h⟩ → AnyD F ops tab p md K (fuel + 1) listed s := by
  intro fuel
  induction fuel with
  | zero =>
    intro listed s _ _ hr hL hc H
    refine ⟨fun h => (by rw [h] at hr; cases hr), fun j hj => ?_⟩
    by_cases hji : j = i
    · subst hji; exact ⟨oi, v, ei, hi, hL, hc, H⟩
    · have := ready_mono hj hji
      rw [H.1] at this
      cases this
  | succ fuel ih =>
    intro listed s hinv hfree hr hL hc H
    refine ⟨fun h => (by rw [h] at hr; cases hr), fun j hj => ?_⟩
    by_cases hji : j = i
    · subst hji; exact ⟨oi, v, ei, hi, hL, hc, H⟩
    · obtain ⟨oj, u, ej, hoj, hLj, hcj, HH⟩ := H.2 j (ready_mono hj hji)
      obtain ⟨hjun, oj', hoj', hall⟩ := mem_ready.1 hj
      rw [hoj] at hoj'; cases hoj'
      have hnot : ¬ Bk md ops i j := fun hbk => by
        obtain ⟨e, he, hb, hbk'⟩ := hbk.step hoj hji
        have h1 := hall e he hb
        have h0 : listed.getD e.on true = false := by
          rcases hbk' with h | ⟨f, h⟩
          · rw [h]; exact (mem_ready.1 hr).1
          · cases f with
            | zero => cases h
            | succ f =>
              have h' := h
              simp only [reachD] at h'
              split at h'
              · rename_i o' ho'
                exact hinv e.on o' ho' (.inr ⟨_, h⟩)
              · cases h'
        rcases Nat.lt_or_ge e.on listed.size with h' | h'
        · simp [h'] at h0 h1; rw [h0] at h1; cases h1
        · simp [Array.getElem?_eq_none h'] at h1
      obtain ⟨hap, hco⟩ := hfree j oj hoj hji hjun hnot
      obtain ⟨a1, a2, a3⟩ := Oper.apart_spec hap
      simp only [compat, Bool.and_eq_true] at hco
      have c1 : ∀ a g, tab i = some (a, g) → p j a = false := fun a g ht => by
        have := hco.1; rw [ht] at this; simp only [Bool.and_eq_true, Bool.not_eq_true'] at this; exact this.1
      have c2 : ∀ a g, tab j = some (a, g) → p i a = false := fun a g ht => by
        have := hco.2; rw [ht] at this; simpa using this
      have c3 : ∀ a b, tab i = some (a, true) → tab j = some (b, true) → False := fun a b h1 h2 => by
        have := hco.1; rw [h1, h2] at this; simp at this
      -- j, with i not done yet
      have growsI : ∀ o, ei = .push o → tab i = some (s.h.length, true) := fun o e => by rw [e] at hc; exact hc
      have hgr : ej.grows = true → ei.grows = false := fun g => by
        cases ej with
        | push o =>
          cases hei : ei with
          | push o' => exact absurd hcj (fun h => c3 _ _ (growsI _ hei) h)
          | _ => rfl
        | _ => cases g
      have hlen : ej.grows = true → s.h.length = (ei.app s.h).length := fun g => (Eff.length_le (hgr g)).symm
      have hLj' : Local F ops (p j) j oj s u ej := hLj.move (fun x hx => (ev_puts (looks_operands a1 hx)).symm) (wantedV_puts a1).symm (Eff.same hc c1).symm hlen
      have hcj' : conf tab j s ej := by
        cases ej with
        | none => trivial
        | set a o => exact hcj
        | push o =>
          have := hlen rfl
          simp only [conf] at hcj ⊢
          rw [this]; exact hcj
      have hlen2 : ei.grows = true → (ej.app s.h).length = s.h.length := fun g => Eff.length_le (by
        cases hej : ej.grows with
        | false => rfl
        | true => rw [hgr hej] at g; cases g)
      have hLi : Local F ops (p i) i oi ⟨puts s.t oj.dst u, ej.app s.h⟩ v ei := hL.move (fun x hx => ev_puts (looks_operands a3 hx)) (wantedV_puts a3) (Eff.same hcj' c2) hlen2
      have hci : conf tab i ⟨puts s.t oj.dst u, ej.app s.h⟩ ei := by
        cases ei with
        | none => trivial
        | set a o => exact hc
        | push o =>
          have := hlen2 rfl
          simp only [conf] at hc ⊢
          rw [this]; exact hc
      have hput : puts (puts s.t oi.dst v) oj.dst u = puts (puts s.t oj.dst u) oi.dst v := by
        cases hdi : oi.dst with
        | none => cases oj.dst <;> rfl
        | some di =>
          cases hdj : oj.dst with
          | none => rfl
          | some dj =>
            have hne : di ≠ dj := fun e => a2 di hdi (by rw [hdj, e])
            simp only [puts]
            exact List.set_comm _ _ hne
      have heff : ej.app (ei.app s.h) = ei.app (ej.app s.h) := by
        cases hei : ei with
        | none => cases ej <;> rfl
        | set a o =>
          cases hej : ej with
          | none => rfl
          | set b o' =>
            have h1 := (hL.tgt a o hei).1
            have h2 := c2 b false (by rw [hej] at hcj'; exact hcj')
            have hne : a ≠ b := fun e => by rw [e, h2] at h1; cases h1
            simp only [Eff.app]
            exact List.set_comm _ _ hne
          | push o' =>
            simp only [Eff.app]
            rw [List.set_append_left _ _ (hL.tgt a o hei).2]
        | push o =>
          cases hej : ej with
          | none => rfl
          | set b o' =>
            simp only [Eff.app]
            rw [List.set_append_left _ _ (hLj'.tgt b o' hej).2]
          | push o' => rw [hei] at hgr; exact absurd (hgr (by rw [hej]; rfl)) (by simp [Eff.grows])
      refine ⟨oj, u, ej, hoj, hLj', hcj', ih (listed.setIfInBounds j true) _ ?_ ?_ (ready_mono hr (Ne.symm hji)) hLi hci ?_⟩
      · intro k ok hk hbk
        have hjk : j ≠ k := fun e => hnot (e ▸ hbk)
        rw [getD_set_ne true hjk]; exact hinv k ok hk hbk
      · intro k ok hk hki hun hno
        refine hfree k ok hk hki ?_ hno
        by_cases hjk : j = k
        · subst hjk; exact hjun
        · rw [getD_set_ne true hjk] at hun; exact hun
      · rw [Array.setIfInBounds_comm _ _ hji]
        simp only
        rw [← hput, ← heff]
        exact HH
/-! ### the order of the text -/
def freeD (md : Region.Mode) (ops : Array Oper) (tab : Nat → Option (Nat × Bool)) (p : Nat → Nat → Bool) (listed : Array Bool) (i : Nat) : Bool :=
  match ops[i]? with
  | none => false
  | some oi => (List.range ops.size).all fun j => j == i || listed.getD j true || match ops[j]? with
      | some oj => oj.after.any (fun e => Region.binds md e && e.on == i) || (oi.apart ops oj && compat tab p i j) || bkD md ops i j
      | none => true
def lexD (md : Region.Mode) (ops : Array Oper) (tab : Nat → Option (Nat × Bool)) (p : Nat → Nat → Bool) : Nat → Nat → Array Bool → Bool
  | 0, _, listed => (Region.ready md ops listed).isEmpty
  | fuel + 1, k, listed => (Region.ready md ops listed).contains k && freeD md ops tab p listed k && lexD md ops tab p fuel (k + 1) (listed.setIfInBounds k true)
theorem freeD_spec {md : Region.Mode} {ops : Array Oper} {tab : Nat → Option (Nat × Bool)} {p : Nat → Nat → Bool} {i : Nat} {oi : Oper} {listed : Array Bool} (hi : ops[i]? = some oi) (h : freeD md ops tab p listed i = true) (j : Nat) (oj : Oper)
    (hj : ops[j]? = some oj) (hne : j ≠ i) (hun : listed.getD j true = false) (hno : ¬ Bk md ops i j) : oi.apart ops oj = true ∧ compat tab p i j = true := by
  simp only [freeD, hi, List.all_eq_true, List.mem_range] at h
  have h1 := h j (Array.getElem?_eq_some_iff.1 hj).1
  simp only [hj, Bool.or_eq_true, beq_iff_eq, hne, false_or, hun, Bool.false_eq_true, Bool.and_eq_true] at h1
  rcases h1 with (h1 | h1) | h1
  · exact absurd (.inr ⟨1, by simpa [reachD, hj] using h1⟩) hno
  · exact h1
  · exact absurd (.inr (bkD_spec h1)) hno
/-- What is listed has all listed that it waits for. -/
def Shut (md : Region.Mode) (ops : Array Oper) (listed : Array Bool) : Prop := ∀ m om, ops[m]? = some om → listed.getD m true = true → ∀ e ∈ om.after, Region.binds md e = true → listed.getD e.on false = true
theorem getD_sizes {listed : Array Bool} {k : Nat} (h : listed.getD k false = true) : listed.getD k true = true := by
  rcases Nat.lt_or_ge k listed.size with h' | h'
  · simpa [h'] using h
  · simp [Array.getElem?_eq_none h'] at h
theorem Shut.inv {md : Region.Mode} {ops : Array Oper} {listed : Array Bool} (hs : Shut md ops listed) {i : Nat} (hi : listed.getD i true = false) (j : Nat) (oj : Oper) (hj : ops[j]? = some oj) (hb : Bk md ops i j) : listed.getD j true = false := by
  have key : ∀ (f j : Nat) (oj : Oper), ops[j]? = some oj → reachD md ops i f j = true → listed.getD j true = false := by
    intro f
    induction f with
    | zero => intro j oj hj h; cases h
    | succ f ih =>
      intro j oj hj h
      simp only [reachD, hj] at h
      obtain ⟨e, he, hb⟩ := Array.any_eq_true'.1 h
      simp only [Bool.and_eq_true, Bool.or_eq_true, beq_iff_eq] at hb
      cases hl : listed.getD j true with
      | false => rfl
      | true =>
        exfalso
        have h1 := getD_sizes (hs j oj hj hl e he hb.1)
        rcases hb.2 with h2 | h2
        · rw [h2, hi] at h1; cases h1
        · cases f with
          | zero => cases h2
          | succ f =>
            have h3 := h2
            simp only [reachD] at h3
            split at h3
            · rename_i o' ho'
              rw [ih e.on o' ho' h2] at h1; cases h1
            · cases h3
  rcases hb with rfl | ⟨f, h⟩
  · exact hi
  · exact key f j oj hj h
theorem Shut.set {md : Region.Mode} {ops : Array Oper} {listed : Array Bool} (hs : Shut md ops listed) {k : Nat} (hr : k ∈ Region.ready md ops listed) : Shut md ops (listed.setIfInBounds k true) := by
  obtain ⟨hun, ok, hok, hall⟩ := mem_ready.1 hr
  have mono : ∀ m, listed.getD m false = true → (listed.setIfInBounds k true).getD m false = true := fun m hm => by
    by_cases hkm : k = m
    · subst hkm
      rcases Nat.lt_or_ge k listed.size with h' | h'
      · simp [h']
      · simp [Array.getElem?_eq_none h'] at hm
    · rw [getD_set_ne false hkm]; exact hm
  intro m om hm hl e he hb
  by_cases hkm : k = m
  · subst hkm
    rw [hok] at hm; cases hm
    exact mono _ (hall e he hb)
  · rw [getD_set_ne true hkm] at hl
    exact mono _ (hs m om hm hl e he hb)
/-- The walk in the order of the text. -/
def RegD {P : Program} (F : Facts P) (ops : Array Oper) (tab : Nat → Option (Nat × Bool)) (p : Nat → Nat → Bool) (K : St → Prop) : Nat → Nat → St → Prop
  | 0, _, s => K s
  | n + 1, i, s => ∃ o v eff, ops[i]? = some o ∧ Local F ops (p i) i o s v eff ∧ conf tab i s eff ∧ RegD F ops tab p K n (i + 1) ⟨puts s.t o.dst v, eff.app s.h⟩
theorem AnyD.of_lex {P : Program} {F : Facts P} {ops : Array Oper} {tab : Nat → Option (Nat × Bool)} {p : Nat → Nat → Bool} {md : Region.Mode} {K : St → Prop} : ∀ (n k : Nat) (listed : Array Bool) (s : St), Shut md ops listed → lexD md ops tab p n k listed = true → RegD F ops tab p K n k s → AnyD F ops tab p md K n listed s
  | 0, _, _, _, hs, hB, h => ⟨by simpa [lexD] using hB, h⟩
  | n + 1, k, listed, s, hs, hB, h => by
    simp only [lexD, Bool.and_eq_true] at hB
    obtain ⟨⟨hr, hf⟩, hB'⟩ := hB
    obtain ⟨o, v, eff, ho, hL, hc, hK⟩ := h
    have hr' : k ∈ Region.ready md ops listed := by simpa using hr
    exact AnyD.first ho n listed s (hs.inv (mem_ready.1 hr').1) (freeD_spec ho hf) hr' hL hc (AnyD.of_lex n (k + 1) _ _ (hs.set hr') hB' hK)
theorem below_drawn (w : World) (k : Nat) : Below w.heap.size w { w with drawn := k } := ⟨rfl, rfl, rfl, Nat.le_refl _, fun _ _ => rfl⟩
theorem T_regionD {P : Program} {b : Nat} {ro : Option Nat} {s : St} {K : Exit → St → Prop} {id : Nat} {ops : Array Oper} {F : Facts P} {tab : Nat → Option (Nat × Bool)} {p : Nat → Nat → Bool} (hB : lexD .any ops tab p ops.size 0 (Array.replicate ops.size false) = true)
    (h : RegD F ops tab p (K .normal) ops.size 0 s) : T P b ro (.region id ops true) s K := fun C E0 m a w hb L S => by
  refine wpIn_region_any F.mixed ?_
  have S' := S.world (below_drawn w (w.drawn + 1))
  exact AnyD.sound ro _ (AnyD.of_lex _ _ _ _ (fun m om hm hl => by have := (Array.getElem?_eq_some_iff.1 hm).1; simp [this] at hl) hB h) S' (fun s' m' a' w' hk S2 L2 => ⟨s', m', hk, S2, (L.trans (up_world (below_drawn w (w.drawn + 1))).leN).trans L2⟩)
end Go.Ab
namespace Go.Ab
open Go Go.RowKit
set_option linter.unusedVariables false

/-! ### regions whose operations leave the heap alone, in whatever order -/
def quietOp : Op → Bool
  | .move _ | .assign _ | .pick _ _ _ | .build _ _ | .buildSlice _ _ _ | .load _ _ | .nilCheck _ | .binOp _ _ _ _ _ | .unOp _ _ _ | .makeFunc _ _ _ | .slice _ _ _ _ _ | .fieldAddr _ _ _ | .field _ _ _ | .indexAddr _ _ _ | .index _ _ _ | .extract _ _ => true
  | .call ⟨.builtin b, _, _⟩ => match b with
    | .len | .max | .min => true
    | _ => false
  | .call ⟨.value _, _, _⟩ => true
  | _ => false
theorem quietOp_cid {s : St} {op : Op} (h : quietOp op = true) : cidOf s op = none ∧ tame s op = true := by
  cases op with
  | call c =>
    obtain ⟨callee, args, ts⟩ := c
    cases callee with
    | builtin b => cases b <;> simp [quietOp] at h <;> exact ⟨rfl, rfl⟩
    | _ => exact ⟨rfl, rfl⟩
  | _ => first | exact ⟨rfl, rfl⟩ | simp [quietOp] at h
theorem seen_true {s : St} {op : Op} : seen (fun _ => true) s op = true := by
  have hA : seenA (fun _ => true) (ev s) op = true := by
    simp only [seenA, List.all_eq_true]
    intro x _
    cases ev s x with
    | none => rfl
    | some v => exact V.all_true v
  cases op with
  | nilCheck x | fieldAddr T x f =>
    simp only [seen, seenE]
    cases ev s x with
    | none => rfl
    | some v => cases v <;> first | rfl | exact V.all_true _
  | _ => first | rfl | exact hA
/-- Is the text's order good for all? -/
def quietB (ops : Array Oper) : Bool := ops.all (fun o => quietOp o.op) && lexD .any ops (fun _ => none) (fun _ _ => true) ops.size 0 (Array.replicate ops.size false)
inductive StepQ {P : Program} (F : Facts P) (ops : Array Oper) (i : Nat) (s : St) : List V → Prop
  | skip {o : Oper} (ho : ops[i]? = some o) (hw : wantedV ops s o = some false) : StepQ F ops i s (puts s.t o.dst (.tup []))
  | val {o : Oper} {v : V} {h' : List AObj} (ho : ops[i]? = some o) (hw : wantedV ops s o = some true) (hop : opV F s o.op = some (some v, h')) : StepQ F ops i s (puts s.t o.dst v)
  | call {o : Oper} {x : Operand} {args : Array Operand} {ts : Array TypeId} {g : FuncId} {first caps vs dargs : List V} {r : V} (ho : ops[i]? = some o) (hw : wantedV ops s o = some true)
      (hop : o.op = .call ⟨.value x, args, ts⟩) (hx : ev s x = some (.fn g first caps)) (ha : evs s args.toList = some vs) (hb : ∃ fn, P.funcs[g]? = some fn ∧ fn.body.isSome = true ∧ (fn.name == "runtime.NumGoroutine") = false)
      (hc : convDL (fun b => b) s.h (first ++ vs ++ caps) = some dargs) (hr : Ret P g dargs r) : StepQ F ops i s (puts s.t o.dst r)
theorem store_some {P : Program} {F : Facts P} {s : St} {op : Op} {v : V} {h' : List AObj} (h : opV F s op = some (some v, h')) (hq : quietOp op = true) : h' = s.h := by
  obtain ⟨eff, rfl, hd, _⟩ := opV_local (p := fun _ => true) seen_true (quietOp_cid (s := s) hq).2 h
  cases eff with
  | none => rfl
  | set a o => have := hd.2.2; rw [(quietOp_cid (s := s) hq).1] at this; cases this
  | push o => have : cidOf s op = _ := hd; rw [(quietOp_cid (s := s) hq).1] at this; cases this
theorem StepQ.local {P : Program} {F : Facts P} {ops : Array Oper} {i : Nat} {s : St} {t' : List V} (h : StepQ F ops i s t') (hq : ∀ o, ops[i]? = some o → quietOp o.op = true) :
    ∃ o v, ops[i]? = some o ∧ t' = puts s.t o.dst v ∧ Local F ops (fun _ => true) i o s v .none := by
  cases h with
  | @skip o ho hw => exact ⟨o, _, ho, rfl, fun s2 _ h2 _ _ => .skip ho (h2.trans hw), fun _ _ he => by cases he⟩
  | @val o v h' ho hw hop =>
    have hh := store_some hop (hq o ho)
    obtain ⟨eff, he, hd, hloc⟩ := opV_local (p := fun _ => true) seen_true (quietOp_cid (s := s) (hq o ho)).2 hop
    have : eff = .none := by
      cases eff with
      | none => rfl
      | set a o => have := hd.2.2; rw [(quietOp_cid (s := s) (hq _ ho)).1] at this; cases this
      | push o' => have : cidOf s o.op = _ := hd; rw [(quietOp_cid (s := s) (hq _ ho)).1] at this; cases this
    subst this
    exact ⟨o, v, ho, rfl, fun s2 h1 h2 h3 _ => .val ho (h2.trans hw) (hloc s2 h1 h3 (fun g => by cases g)), fun _ _ he => by cases he⟩
  | @call o x args ts g first caps vs dargs r ho hw hop hx ha hb hc hr =>
    refine ⟨o, r, ho, rfl, fun s2 h1 h2 h3 _ => ?_, fun _ _ he => by cases he⟩
    have hops : ∀ y ∈ #[x] ++ args, ev s2 y = ev s y := fun y hy => h1 y (by rw [hop]; exact hy)
    have hc2 : convDL (fun b => b) s2.h (first ++ vs ++ caps) = some dargs := by
      rw [convDL_local (p := fun _ => true) h3 (V.allL_true _)]; exact hc
    refine .call ho (h2.trans hw) hop ((hops x (by simp)).trans hx) ((evs_congr (fun y hy => hops y (by simp at hy ⊢; exact .inr hy))).trans ha) hb ?_
    have := Ret.shared hr rfl (h := s2.h) (args := first ++ vs ++ caps) (by rw [frzD_of_conv hc2]; exact hc2)
    rw [frzD_of_conv hc2] at this
    exact this
/-- The walk. -/
def RegQ {P : Program} (F : Facts P) (ops : Array Oper) (K : St → Prop) : List Nat → St → Prop
  | [], s => K s
  | i :: l, s => ∃ t', StepQ F ops i s t' ∧ RegQ F ops K l ⟨t', s.h⟩
theorem RegQ.regD {P : Program} {F : Facts P} {ops : Array Oper} {K : St → Prop} (hq : ∀ (i : Nat) (o : Oper), ops[i]? = some o → quietOp o.op = true) : ∀ (n k : Nat) {s : St}, RegQ F ops K (List.range' k n) s → RegD F ops (fun _ => none) (fun _ _ => true) K n k s
  | 0, k, s, h => h
  | n + 1, k, s, h => by
    obtain ⟨t', hs, hk⟩ := h
    obtain ⟨o, v, ho, rfl, hL⟩ := hs.local (hq k)
    exact ⟨o, v, .none, ho, hL, trivial, RegQ.regD hq n (k + 1) hk⟩
/-- As far as it goes without a call. -/
def runQ {P : Program} (F : Facts P) (ops : Array Oper) : List Nat → St → Option (St × List Nat)
  | [], s => some (s, [])
  | i :: l, s => match ops[i]? with
    | none => none
    | some o => match wantedV ops s o with
      | none => none
      | some false => runQ F ops l ⟨puts s.t o.dst (.tup []), s.h⟩
      | some true => match opV F s o.op with
        | some (some v, h') => runQ F ops l ⟨puts s.t o.dst v, s.h⟩
        | _ => some (s, i :: l)
theorem RegQ.of_runQ {P : Program} {F : Facts P} {ops : Array Oper} {K : St → Prop} : ∀ {l : List Nat} {s s1 : St} {l1 : List Nat}, runQ F ops l s = some (s1, l1) → RegQ F ops K l1 s1 → RegQ F ops K l s
  | [], s, s1, l1, h, k => by
    simp only [runQ, Option.some.injEq, Prod.mk.injEq] at h
    obtain ⟨rfl, rfl⟩ := h
    exact k
  | i :: l, s, s1, l1, h, k => by
    simp only [runQ] at h
    split at h
    · cases h
    · rename_i o ho
      split at h
      · cases h
      · rename_i hw
        exact ⟨_, .skip ho hw, RegQ.of_runQ h k⟩
      · rename_i hw
        split at h
        · rename_i v h' hop
          exact ⟨_, .val ho hw hop, RegQ.of_runQ h k⟩
        · simp only [Option.some.injEq, Prod.mk.injEq] at h
          obtain ⟨rfl, rfl⟩ := h
          exact k
def RegQC {P : Program} (F : Facts P) (ops : Array Oper) (K : St → Prop) (l : List Nat) (s : St) : Prop :=
  match runQ F ops l s with
  | some (s1, []) => K s1
  | some (s1, l1) => RegQ F ops K l1 s1
  | none => False
theorem RegQC.q {P : Program} {F : Facts P} {ops : Array Oper} {K : St → Prop} {l : List Nat} {s : St} (h : RegQC F ops K l s) : RegQ F ops K l s := by
  unfold RegQC at h
  split at h
  · rename_i s1 hr
    exact RegQ.of_runQ hr h
  · rename_i s1 l1 _ hr
    exact RegQ.of_runQ hr h
  · exact h.elim
theorem T_regQ {P : Program} {b : Nat} {ro : Option Nat} {s : St} {K : Exit → St → Prop} {id : Nat} {ops : Array Oper} (F : Facts P) (hB : quietB ops = true) (h : RegQC F ops (K .normal) (List.range ops.size) s) : T P b ro (.region id ops true) s K := by
  simp only [quietB, Bool.and_eq_true] at hB
  have hq : ∀ (i : Nat) (o : Oper), ops[i]? = some o → quietOp o.op = true := fun i o ho => by
    have := hB.1
    rw [Array.all_eq_true_iff_forall_mem] at this
    exact this o (Array.mem_of_getElem? ho)
  refine T_regionD (F := F) hB.2 ?_
  exact RegQ.regD hq _ 0 (by rw [← List.range_eq_range']; exact h.q)
end Go.Ab
namespace Go.Ab
open Go Go.RowKit
set_option linter.unusedVariables false
theorem part_one {P : Program} {T : TypeId} (w : World) (hk : kindT P T = some false) {cs : Array Value} {off : Nat} {x : Value} (hx : cs[off]? = some x) : (part T cs off).run P w = .ok x w := by
  simp [part, run_isAgg hk, hx]
theorem eqFields_ints {P : Program} {d : Nat} {w : World} {xs ys : Array Value} : ∀ {fs : List Field} {xa xb : List Int}, (∀ f ∈ fs, (f.name == "_") = false ∧ kindT P f.type = some false ∧ P.underlying f.type = some (.int .i64)) →
    xa.length = fs.length → xb.length = fs.length → (∀ (k : Nat) f, fs[k]? = some f → ∀ a, xa[k]? = some a → xs[f.offset]? = some (.int .i64 a)) → (∀ (k : Nat) f, fs[k]? = some f → ∀ b, xb[k]? = some b → ys[f.offset]? = some (.int .i64 b)) →
    (Op.eqFields (d + 1) xs ys fs).run P w = .ok (xa == xb) w
  | [], [], [], _, _, _, _, _ => by simp [Op.eqFields]
  | f :: fs, a :: xa, b :: xb, hf, ha, hb, hx, hy => by
    obtain ⟨h1, h2, h3⟩ := hf f (by simp)
    have hn : f.name ≠ "_" := by simpa using h1
    have pa := part_one (P := P) w h2 (hx 0 f rfl a rfl)
    have pb := part_one (P := P) w h2 (hy 0 f rfl b rfl)
    have ih := eqFields_ints (P := P) (d := d) (w := w) (xs := xs) (ys := ys) (fs := fs) (xa := xa) (xb := xb) (fun g hg => hf g (by simp [hg])) (by simpa using ha) (by simpa using hb) (fun k g hk a' hk' => hx (k + 1) g (by simpa using hk) a' (by simpa using hk')) (fun k g hk a' hk' => hy (k + 1) g (by simpa using hk) a' (by simpa using hk'))
    rw [Op.eqFields]
    simp only [if_pos hn, Sem.run_bind, pa, pb, run_equalIn_int w d f.type .i64 .i64 a b h3, Result.andThen_ok]
    cases hab : (a == b)
    · simp [hab, List.cons_beq_cons]
    · simp [ih, hab, List.cons_beq_cons]
  | [], _ :: _, _, _, h, _, _, _ => by simp at h
  | [], [], _ :: _, _, _, h, _, _ => by simp at h
  | _ :: _, [], _, _, h, _, _, _ => by simp at h
  | _ :: _, _ :: _, [], _, _, h, _, _ => by simp at h
theorem valsK_get (n : Nat) : ∀ (xa : List Int) (k : Nat) (a : Int), xa.length = n → xa[k]? = some a → (valsK (List.replicate n .i64) xa)[k]? = some (.int .i64 a) := by
  induction n with
  | zero => intro xa k a h hk; have : xa = [] := List.length_eq_zero_iff.1 h; subst this; simp at hk
  | succ n ih =>
    intro xa k a h hk
    cases xa with
    | nil => simp at h
    | cons x xa =>
      simp only [List.replicate_succ, valsK]
      cases k with
      | zero => simpa using hk
      | succ k => simpa using ih xa k a (by simpa using h) (by simpa using hk)
theorem struct_eq {P : Program} {T n : Nat} (h1 : P.eqGuardType P.depth T = false) (h2 : P.stoodInHeld T = false) (h3 : P.underlying T = some (.struct (P.fieldsOf T)))
    (h4 : (P.fieldsOf T).toList.length = n) (h5 : ∀ f ∈ (P.fieldsOf T).toList, (f.name == "_") = false ∧ kindT P f.type = some false ∧ P.underlying f.type = some (.int .i64)) (h6 : (P.fieldsOf T).toList.map (·.offset) = List.range n)
    (xa xb : List Int) (x y : Operand) (w : World) (ha : xa.length = n) (hb : xb.length = n) :
    ((do eqGuard .eql T x y (.agg (valsK (List.replicate n .i64) xa).toArray) (.agg (valsK (List.replicate n .i64) xb).toArray); binOp .eql T (.agg (valsK (List.replicate n .i64) xa).toArray) (.agg (valsK (List.replicate n .i64) xb).toArray)).run P w = .ok (.bool (xa == xb)) w) ∧
    ((do eqGuard .neq T x y (.agg (valsK (List.replicate n .i64) xa).toArray) (.agg (valsK (List.replicate n .i64) xb).toArray); binOp .neq T (.agg (valsK (List.replicate n .i64) xa).toArray) (.agg (valsK (List.replicate n .i64) xb).toArray)).run P w = .ok (.bool (!(xa == xb))) w) := by
  have hoff : ∀ (k : Nat) f, (P.fieldsOf T).toList[k]? = some f → f.offset = k := fun k f hk => by
    have hlt := (List.getElem?_eq_some_iff.1 hk).1
    have := congrArg (fun l => l[k]?) h6
    simp only [List.getElem?_map, hk, Option.map_some] at this
    rw [List.getElem?_range (by omega)] at this
    simpa using this
  have he := eqFields_ints (P := P) (d := 9998) (w := w) (xs := (valsK (List.replicate n .i64) xa).toArray) (ys := (valsK (List.replicate n .i64) xb).toArray) (fs := (P.fieldsOf T).toList) (xa := xa) (xb := xb) h5 (by omega) (by omega)
    (fun k f hk a hk' => by rw [hoff k f hk]; simpa using valsK_get n xa k a ha hk') (fun k f hk a hk' => by rw [hoff k f hk]; simpa using valsK_get n xb k a hb hk')
  have hs : (Op.equalIn 10000 T (.agg (valsK (List.replicate n .i64) xa).toArray) (.agg (valsK (List.replicate n .i64) xb).toArray)).run P w = .ok (xa == xb) w := by
    rw [show (10000 : Nat) = 9999 + 1 from rfl, run_equalIn_struct w 9999 T _ _ h3 h2]
    exact he
  constructor
  · simp only [Sem.run_bind, run_eqGuard_agg w .eql T x y _ _ h1, Result.andThen_ok, run_eql_struct, hs]
  · simp only [Sem.run_bind, run_eqGuard_agg w .neq T x y _ _ h1, Result.andThen_ok, run_neq_struct, hs]
def okF (P : Program) : List Field → Bool
  | [] => true
  | f :: fs => (f.name == "_") == false && (kindT P f.type == some false) && (match P.underlying f.type with | some (.int .i64) => true | _ => false) && okF P fs
theorem okF_spec {P : Program} : ∀ (fs : List Field), okF P fs = true → ∀ f ∈ fs, (f.name == "_") = false ∧ kindT P f.type = some false ∧ P.underlying f.type = some (.int .i64)
  | [], _, f, h => by cases h
  | g :: fs, h, f, hf => by
    simp only [okF, Bool.and_eq_true, beq_iff_eq] at h
    obtain ⟨⟨⟨h1, h2⟩, h3⟩, h4⟩ := h
    rcases List.mem_cons.1 hf with rfl | hf
    · refine ⟨h1, h2, ?_⟩
      split at h3
      · assumption
      · cases h3
    · exact okF_spec fs h4 f hf
theorem eqItems_ints {P : Program} {d E : Nat} {w : World} (hk : kindT P E = some false) (hu : P.underlying E = some (.int .i64)) (hc : P.cellsOf E = 1) (n : Nat) (xa xb : List Int) (ha : xa.length = n) (hb : xb.length = n) : ∀ (m k : Nat), k + m = n →
    (Op.eqItems (d + 1) E 1 (valsK (List.replicate n .i64) xa).toArray (valsK (List.replicate n .i64) xb).toArray (List.range' k m)).run P w = .ok (xa.drop k == xb.drop k) w
  | 0, k, hk' => by
    rw [List.drop_eq_nil_of_le (by omega), List.drop_eq_nil_of_le (by omega)]
    simp [Op.eqItems]
  | m + 1, k, hk' => by
    have h1 : k < xa.length := by omega
    have h2 : k < xb.length := by omega
    have pa := part_one (P := P) (off := k) w hk (cs := (valsK (List.replicate n .i64) xa).toArray) (by simpa using valsK_get n xa k xa[k] ha (List.getElem?_eq_getElem h1))
    have pb := part_one (P := P) (off := k) w hk (cs := (valsK (List.replicate n .i64) xb).toArray) (by simpa using valsK_get n xb k xb[k] hb (List.getElem?_eq_getElem h2))
    have e : (xa.drop k == xb.drop k) = (xa[k] == xb[k] && xa.drop (k + 1) == xb.drop (k + 1)) := by
      rw [List.drop_eq_getElem_cons h1, List.drop_eq_getElem_cons h2, List.cons_beq_cons]
    rw [e, List.range'_succ]
    simp only [Op.eqItems, Nat.mul_one, Sem.run_bind, pa, pb, run_equalIn_int w d E .i64 .i64 _ _ hu, Result.andThen_ok]
    cases hab : (xa[k] == xb[k])
    · simp
    · simp [eqItems_ints hk hu hc n xa xb ha hb m (k + 1) (by omega)]
theorem check_int {P : Program} {E : Nat} (hu : P.underlying E = some (.int .i64)) (e : Bool) (n : Nat) (a : Int) (w : World) : (Instr.checkKey e (n + 1) E (.int .i64 a)).run P w = .ok () w := by
  rw [Instr.checkKey]
  simp [run_underlying hu]
/-- The type is a struct, or an array, of n ints, as far as '==' goes. -/
structure EqInts (P : Program) (T n : Nat) : Prop where
  ops : ∀ (xa xb : List Int) (x y : Operand) (w : World), xa.length = n → xb.length = n →
    ((do eqGuard .eql T x y (.agg (valsK (List.replicate n .i64) xa).toArray) (.agg (valsK (List.replicate n .i64) xb).toArray); binOp .eql T (.agg (valsK (List.replicate n .i64) xa).toArray) (.agg (valsK (List.replicate n .i64) xb).toArray)).run P w = .ok (.bool (xa == xb)) w) ∧
    ((do eqGuard .neq T x y (.agg (valsK (List.replicate n .i64) xa).toArray) (.agg (valsK (List.replicate n .i64) xb).toArray); binOp .neq T (.agg (valsK (List.replicate n .i64) xa).toArray) (.agg (valsK (List.replicate n .i64) xb).toArray)).run P w = .ok (.bool (!(xa == xb))) w)
  eq : ∀ (xa xb : List Int) (w : World), xa.length = n → xb.length = n → (Op.equal T (.agg (valsK (List.replicate n .i64) xa).toArray) (.agg (valsK (List.replicate n .i64) xb).toArray)).run P w = .ok (xa == xb) w
  chk : ∀ (xa : List Int) (e : Bool) (w : World), xa.length = n → (Instr.checkKey e 10000 T (.agg (valsK (List.replicate n .i64) xa).toArray)).run P w = .ok () w
  wide : wideT P T = true
theorem EqInts.of_eq {P : Program} {T n : Nat} (h1 : P.eqGuardType P.depth T = false) (he : ∀ (xa xb : List Int) (w : World), xa.length = n → xb.length = n → (Op.equalIn 10000 T (.agg (valsK (List.replicate n .i64) xa).toArray) (.agg (valsK (List.replicate n .i64) xb).toArray)).run P w = .ok (xa == xb) w)
    (hc : ∀ (xa : List Int) (e : Bool) (w : World), xa.length = n → (Instr.checkKey e 10000 T (.agg (valsK (List.replicate n .i64) xa).toArray)).run P w = .ok () w) (hw : wideT P T = true) : EqInts P T n := by
  refine ⟨fun xa xb x y w ha hb => ?_, fun xa xb w ha hb => he xa xb w ha hb, hc, hw⟩
  constructor
  · simp only [Sem.run_bind, run_eqGuard_agg w .eql T x y _ _ h1, Result.andThen_ok, run_eql_struct, he xa xb w ha hb]
  · simp only [Sem.run_bind, run_eqGuard_agg w .neq T x y _ _ h1, Result.andThen_ok, run_neq_struct, he xa xb w ha hb]
theorem EqInts.of {P : Program} {T n : Nat} (h1 : P.eqGuardType P.depth T = false) (h2 : P.stoodInHeld T = false) (h3 : P.underlying T = some (.struct (P.fieldsOf T)))
    (h4 : (P.fieldsOf T).toList.length = n) (h5 : okF P (P.fieldsOf T).toList = true) (h6 : (P.fieldsOf T).toList.map (·.offset) = List.range n) : EqInts P T n := by
  have h5' := okF_spec _ h5
  have hoff : ∀ (k : Nat) f, (P.fieldsOf T).toList[k]? = some f → f.offset = k := fun k f hk => by
    have hlt := (List.getElem?_eq_some_iff.1 hk).1
    have := congrArg (fun l => l[k]?) h6
    simp only [List.getElem?_map, hk, Option.map_some] at this
    rw [List.getElem?_range (by omega)] at this
    simpa using this
  refine .of_eq h1 (fun xa xb w ha hb => ?_) (fun xa e w ha => ?_) (by unfold wideT; rw [h3])
  · rw [show (10000 : Nat) = 9999 + 1 from rfl, run_equalIn_struct w 9999 T _ _ h3 h2]
    exact eqFields_ints (P := P) (d := 9998) (w := w) (xs := (valsK (List.replicate n .i64) xa).toArray) (ys := (valsK (List.replicate n .i64) xb).toArray) (fs := (P.fieldsOf T).toList) (xa := xa) (xb := xb) h5' (by omega) (by omega)
      (fun k f hk a hk' => by rw [hoff k f hk]; simpa using valsK_get n xa k a ha hk') (fun k f hk a hk' => by rw [hoff k f hk]; simpa using valsK_get n xb k a hb hk')
  · rw [show (10000 : Nat) = 9998 + 1 + 1 from rfl, Instr.checkKey]
    simp only [Sem.run_bind, run_underlying h3, Result.andThen_ok]
    rw [← Array.forIn_toList]
    have each : ∀ f ∈ (P.fieldsOf T).toList, f.name ≠ "_" ∧ P.underlying f.type = some (.int .i64) ∧ ∃ a, (part f.type (valsK (List.replicate n .i64) xa).toArray f.offset).run P w = .ok (.int .i64 a) w := fun f hf => by
      obtain ⟨g1, g2, g3⟩ := h5' f hf
      obtain ⟨k, hk⟩ := List.getElem?_of_mem hf
      have hlt : k < xa.length := by have := (List.getElem?_eq_some_iff.1 hk).1; omega
      refine ⟨by simpa using g1, g3, xa[k], part_one w g2 ?_⟩
      rw [hoff k f hk]
      simpa using valsK_get n xa k xa[k] ha (List.getElem?_eq_getElem hlt)
    generalize (P.fieldsOf T).toList = L at each
    induction L with
    | nil => simp
    | cons f L ih =>
      obtain ⟨hn, hu, a, hp⟩ := each f (by simp)
      have p2 := check_int hu e 9998 a w
      simp only [List.forIn_cons, Sem.run_bind, hn, ne_eq, not_false_eq_true, if_true, Result.andThen_ok, hp, p2, Sem.run_pure]
      exact ih (fun y hy => each y (by simp [hy]))
theorem EqInts.ofArr {P : Program} {T E n : Nat} (h1 : P.eqGuardType P.depth T = false) (h3 : P.underlying T = some (.array n E)) (hk : kindT P E = some false) (hu : P.underlying E = some (.int .i64)) (hc : P.cellsOf E = 1) : EqInts P T n := by
  have hi : ∃ i, P.info? E = some i := by
    obtain ⟨i, hi, _⟩ := info_of_kind hk
    exact ⟨i, hi⟩
  obtain ⟨i, hi⟩ := hi
  refine .of_eq h1 (fun xa xb w ha hb => ?_) (fun xa e w ha => ?_) (by unfold wideT; rw [h3])
  · rw [show (10000 : Nat) = 9999 + 1 from rfl, run_equalIn_array w 9999 _ _ h3 hi, hc, List.range_eq_range']
    have := eqItems_ints (P := P) (d := 9998) (w := w) hk hu hc n xa xb ha hb n 0 (by omega)
    simpa using this
  · rw [show (10000 : Nat) = 9998 + 1 + 1 from rfl, Instr.checkKey]
    simp only [Sem.run_bind, run_underlying h3, Result.andThen_ok]
    simp only [Std.Legacy.Range.forIn_eq_forIn_range', Std.Legacy.Range.size, Nat.sub_zero, Nat.add_one_sub_one, Nat.div_one]
    have each : ∀ j ∈ List.range' 0 n, ∃ a, (part E (valsK (List.replicate n .i64) xa).toArray j).run P w = .ok (.int .i64 a) w := fun j hj => by
      simp only [List.mem_range'_1] at hj
      have hlt : j < xa.length := by omega
      exact ⟨xa[j], part_one w hk (by simpa using valsK_get n xa j xa[j] ha (List.getElem?_eq_getElem hlt))⟩
    have hsz : (sizeOf E).run P w = .ok 1 w := by rw [← hc]; exact cellsOf_info (by omega) w
    generalize List.range' 0 n = is at each
    induction is with
    | nil => simp
    | cons j is ih =>
      obtain ⟨a, hp⟩ := each j (by simp)
      have p2 := check_int hu e 9998 a w
      simp only [List.forIn_cons, Sem.run_bind, hsz, Result.andThen_ok, Nat.mul_one, hp, p2, Sem.run_pure]
      exact ih (fun y hy => each y (by simp [hy]))
end Go.Ab
namespace Go.Ab
open Go Go.RowKit
set_option linter.unusedVariables false
/-! ### rules for walks -/
section
variable {P : Program} {b : Nat} {ro : Option Nat} {s s' s1 : St} {K : Exit → St → Prop} {id : Nat} {ops : Array Oper} {x y z : Code} {c : Operand} {t : Bool} {l l1 : List Nat} {KK : St → Prop}
theorem T_sr (F : Facts P) (h : runV F ops (List.range ops.size) s = some (s', [])) (k : T P b ro y s' K) : T P b ro (.seq (.region id ops false) y) s K :=
  T_seq (T_reg F (by unfold RegC; rw [h]; exact k))
theorem T_r (F : Facts P) (h : runV F ops (List.range ops.size) s = some (s', [])) (k : K .normal s') : T P b ro (.region id ops false) s K :=
  T_reg F (by unfold RegC; rw [h]; exact k)
theorem T_srQ (F : Facts P) (hB : quietB ops = true) (h : runQ F ops (List.range ops.size) s = some (s', [])) (k : T P b ro y s' K) : T P b ro (.seq (.region id ops true) y) s K :=
  T_seq (T_regQ F hB (by unfold RegQC; rw [h]; exact k))
theorem T_rQ (F : Facts P) (hB : quietB ops = true) (h : runQ F ops (List.range ops.size) s = some (s', [])) (k : K .normal s') : T P b ro (.region id ops true) s K :=
  T_regQ F hB (by unfold RegQC; rw [h]; exact k)
/-- With calls. -/
theorem T_sw (F : Facts P) (k : RegW F ops (List.range ops.size) s (fun s' => T P b ro y s' K)) : T P b ro (.seq (.region id ops false) y) s K := by
  obtain ⟨s', hr, hk⟩ := k
  exact T_seq (T_region hr hk)
theorem T_w (F : Facts P) (k : RegW F ops (List.range ops.size) s (K .normal)) : T P b ro (.region id ops false) s K := by
  obtain ⟨s', hr, hk⟩ := k
  exact T_region hr hk
theorem W_run {F : Facts P} (h : runV F ops l s = some (s1, l1)) (k : RegW F ops l1 s1 KK) : RegW F ops l s KK := RegW.of_runV h k
theorem W_nil {F : Facts P} (k : KK s) : RegW F ops [] s KK := ⟨s, .nil, k⟩
theorem W_callS {F : Facts P} {i : Nat} {o : Oper} {f : Operand} {args : Array Operand} {ts : Array TypeId} {g : FuncId} {first caps vs : List V} {r : V} {h' : List AObj} (ho : ops[i]? = some o) (hw : wantedV ops s o = some true)
    (hop : o.op = .call ⟨.value f, args, ts⟩) (hx : ev s f = some (.fn g first caps)) (ha : evs s args.toList = some vs) (hb : ∃ fn, P.funcs[g]? = some fn ∧ fn.body.isSome = true ∧ (fn.name == "runtime.NumGoroutine") = false)
    (hr : RetS P g (first ++ vs ++ caps) s.h r h') (k : RegW F ops l ⟨puts s.t o.dst r, h'⟩ KK) : RegW F ops (i :: l) s KK := by
  obtain ⟨s', h1, h2⟩ := k
  exact ⟨s', .cons (.call ho hw hop hx ha hb hr) h1, h2⟩
theorem W_call {F : Facts P} {i : Nat} {o : Oper} {f : Operand} {args : Array Operand} {ts : Array TypeId} {g : FuncId} {first caps vs dargs : List V} {r : V} {h' : List AObj} (ho : ops[i]? = some o) (hw : wantedV ops s o = some true)
    (hop : o.op = .call ⟨.value f, args, ts⟩) (hx : ev s f = some (.fn g first caps)) (ha : evs s args.toList = some vs) (hb : ∃ fn, P.funcs[g]? = some fn ∧ fn.body.isSome = true ∧ (fn.name == "runtime.NumGoroutine") = false)
    (hf : frzD s.h (first ++ vs ++ caps) = h') (hc : convDL (fun b => b) h' (first ++ vs ++ caps) = some dargs) (hr : Ret P g dargs r) (k : RegW F ops l ⟨puts s.t o.dst r, h'⟩ KK) : RegW F ops (i :: l) s KK :=
  W_callS ho hw hop hx ha hb (hr.shared hf hc) k
theorem T_sq (F : Facts P) (hB : quietB ops = true) (k : RegQ F ops (fun s' => T P b ro y s' K) (List.range ops.size) s) : T P b ro (.seq (.region id ops true) y) s K := by
  simp only [quietB, Bool.and_eq_true] at hB
  have hq : ∀ (i : Nat) (o : Oper), ops[i]? = some o → quietOp o.op = true := fun i o ho => by
    have := hB.1
    rw [Array.all_eq_true_iff_forall_mem] at this
    exact this o (Array.mem_of_getElem? ho)
  refine T_seq (T_regionD (F := F) hB.2 ?_)
  exact RegQ.regD hq _ 0 (by rw [← List.range_eq_range']; exact k)
theorem T_q (F : Facts P) (hB : quietB ops = true) (k : RegQ F ops (K .normal) (List.range ops.size) s) : T P b ro (.region id ops true) s K := by
  simp only [quietB, Bool.and_eq_true] at hB
  have hq : ∀ (i : Nat) (o : Oper), ops[i]? = some o → quietOp o.op = true := fun i o ho => by
    have := hB.1
    rw [Array.all_eq_true_iff_forall_mem] at this
    exact this o (Array.mem_of_getElem? ho)
  refine T_regionD (F := F) hB.2 ?_
  exact RegQ.regD hq _ 0 (by rw [← List.range_eq_range']; exact k)
theorem Q_run {F : Facts P} (h : runQ F ops l s = some (s1, l1)) (k : RegQ F ops KK l1 s1) : RegQ F ops KK l s := RegQ.of_runQ h k
theorem Q_nil {F : Facts P} (k : KK s) : RegQ F ops KK [] s := k
theorem Q_call {F : Facts P} {i : Nat} {o : Oper} {f : Operand} {args : Array Operand} {ts : Array TypeId} {g : FuncId} {first caps vs dargs : List V} {r : V} (ho : ops[i]? = some o) (hw : wantedV ops s o = some true)
    (hop : o.op = .call ⟨.value f, args, ts⟩) (hx : ev s f = some (.fn g first caps)) (ha : evs s args.toList = some vs) (hb : ∃ fn, P.funcs[g]? = some fn ∧ fn.body.isSome = true ∧ (fn.name == "runtime.NumGoroutine") = false)
    (hc : convDL (fun b => b) s.h (first ++ vs ++ caps) = some dargs) (hr : Ret P g dargs r) (k : RegQ F ops KK l ⟨puts s.t o.dst r, s.h⟩) : RegQ F ops KK (i :: l) s :=
  ⟨_, .call ho hw hop hx ha hb hc hr, k⟩
theorem runV_append {F : Facts P} : ∀ {l1 : List Nat} {s s1 : St} {l2 : List Nat}, runV F ops l1 s = some (s1, []) → RegW F ops l2 s1 KK → RegW F ops (l1 ++ l2) s KK
  | [], s, s1, l2, h, k => by
    simp only [runV, Option.some.injEq, Prod.mk.injEq, and_true] at h
    subst h; exact k
  | i :: l, s, s1, l2, h, k => by
    simp only [runV] at h
    split at h
    · cases h
    · rename_i o ho
      split at h
      · cases h
      · rename_i hw
        obtain ⟨s', hr, hk⟩ := runV_append h k
        exact ⟨s', .cons (.skip ho hw) hr, hk⟩
      · rename_i hw
        split at h
        · rename_i v h' hop
          obtain ⟨s', hr, hk⟩ := runV_append h k
          exact ⟨s', .cons (.val ho hw hop) hr, hk⟩
        · rename_i h' hop
          obtain ⟨s', hr, hk⟩ := runV_append h k
          exact ⟨s', .cons (.eff ho hw hop) hr, hk⟩
        · simp at h
theorem W_pre {F : Facts P} (l1 l2 : List Nat) (h : runV F ops l1 s = some (s1, [])) (k : RegW F ops l2 s1 KK) : RegW F ops (l1 ++ l2) s KK := runV_append h k
theorem W_guard {F : Facts P} {i : Nat} {o : Oper} (ho : ops[i]? = some o) (hw : wantedV ops s o = some t) (h1 : t = true → RegW F ops (i :: l) s KK) (h2 : t = false → RegW F ops (i :: l) s KK) : RegW F ops (i :: l) s KK := by
  cases t
  · exact h2 rfl
  · exact h1 rfl
theorem runQ_append {F : Facts P} : ∀ {l1 : List Nat} {s s1 : St} {l2 : List Nat}, runQ F ops l1 s = some (s1, []) → RegQ F ops KK l2 s1 → RegQ F ops KK (l1 ++ l2) s
  | [], s, s1, l2, h, k => by
    simp only [runQ, Option.some.injEq, Prod.mk.injEq, and_true] at h
    subst h; exact k
  | i :: l, s, s1, l2, h, k => by
    simp only [runQ] at h
    split at h
    · cases h
    · rename_i o ho
      split at h
      · cases h
      · rename_i hw
        exact ⟨_, .skip ho hw, runQ_append h k⟩
      · rename_i hw
        split at h
        · rename_i v h' hop
          exact ⟨_, .val ho hw hop, runQ_append h k⟩
        · simp at h
theorem Q_pre {F : Facts P} (l1 l2 : List Nat) (h : runQ F ops l1 s = some (s1, [])) (k : RegQ F ops KK l2 s1) : RegQ F ops KK (l1 ++ l2) s := runQ_append h k
theorem Q_guard {F : Facts P} {i : Nat} {o : Oper} (ho : ops[i]? = some o) (hw : wantedV ops s o = some t) (h1 : t = true → RegQ F ops KK (i :: l) s) (h2 : t = false → RegQ F ops KK (i :: l) s) : RegQ F ops KK (i :: l) s := by
  cases t
  · exact h2 rfl
  · exact h1 rfl
theorem T_wL (F : Facts P) (l : List Nat) (hl : List.range ops.size = l) (k : RegW F ops l s (K .normal)) : T P b ro (.region id ops false) s K := T_w F (by rw [hl]; exact k)
theorem T_qL (F : Facts P) (l : List Nat) (hl : List.range ops.size = l) (hB : quietB ops = true) (k : RegQ F ops (K .normal) l s) : T P b ro (.region id ops true) s K := T_q F hB (by rw [hl]; exact k)
theorem T_if (hc : ev s c = some (.bool t)) (h1 : t = true → T P b ro x s K) (h2 : t = false → T P b ro y s K) : T P b ro (.cond c x y) s K :=
  T_cond hc (by cases t <;> simp_all)
theorem K_seq (h : T P b ro y s K) : seqK P b ro y K .normal s := h
theorem K_seqE {j : Nat} (h : K (.exit j) s) : seqK P b ro y K (.exit j) s := h
theorem K_seqR (h : K .ret s) : seqK P b ro y K .ret s := h
theorem K_blk (h : K .normal s) : blockK id K .normal s := h
theorem K_blkE (h : K .normal s) : blockK id K (.exit id) s := by simp only [blockK, if_true]; exact h
theorem K_blkX {j : Nat} (hj : (j == id) = false) (h : K (.exit j) s) : blockK id K (.exit j) s := by
  simp only [blockK]; rw [if_neg (by simpa using hj)]; exact h
theorem K_blkR (h : K .ret s) : blockK id K .ret s := h
/-- The heap behind number n may be dropped. -/
def Cut (b n : Nat) (s s' : St) : Prop := b ≤ n ∧ n ≤ s.h.length ∧ V.allL (fun i => decide (i < n)) s.t = true ∧ (∀ o ∈ s.h.take n, o.all (fun i => decide (i < n)) = true) ∧ s' = ⟨s.t, s.h.take n⟩
def loopK {α : Type} (b : Nat) (mask : List Bool) (f : α → St) (Inv : α → Prop) (μ : α → Nat) (a : α) (K : Exit → St → Prop) : Exit → St → Prop
  | .normal, s' => ∃ a', ((⟨forget mask s'.t, s'.h⟩ : St) = f a' ∨ ∃ n, Cut b n ⟨forget mask s'.t, s'.h⟩ (f a')) ∧ Inv a' ∧ μ a' < μ a
  | e, s' => K e s'
theorem K_lp {α : Type} {mask : List Bool} {f : α → St} {Inv : α → Prop} {μ : α → Nat} {a : α} (a' : α) (h1 : (⟨forget mask s.t, s.h⟩ : St) = f a') (h2 : Inv a' ∧ μ a' < μ a) : loopK b mask f Inv μ a K .normal s := ⟨a', .inl h1, h2⟩
theorem K_lpc {α : Type} {mask : List Bool} {f : α → St} {Inv : α → Prop} {μ : α → Nat} {a : α} (a' : α) (n : Nat) (h1 : b ≤ n) (h2 : n ≤ s.h.length) (h3 : V.allL (fun i => decide (i < n)) (forget mask s.t) = true) (h4 : (s.h.take n).all (fun o => o.all (fun i => decide (i < n))) = true) (h5 : (⟨forget mask s.t, s.h.take n⟩ : St) = f a') (h6 : Inv a' ∧ μ a' < μ a) : loopK b mask f Inv μ a K .normal s :=
  ⟨a', .inr ⟨n, h1, h2, h3, by simpa using h4, h5.symm⟩, h6⟩
theorem K_lpE {α : Type} {mask : List Bool} {f : α → St} {Inv : α → Prop} {μ : α → Nat} {a : α} {j : Nat} (h : K (.exit j) s) : loopK b mask f Inv μ a K (.exit j) s := h
theorem K_lpR {α : Type} {mask : List Bool} {f : α → St} {Inv : α → Prop} {μ : α → Nat} {a : α} (h : K .ret s) : loopK b mask f Inv μ a K .ret s := h
theorem T_lp {α : Type} (mask : List Bool) (f : α → St) (Inv : α → Prop) (μ : α → Nat) (a0 : α) (h0 : (⟨forget mask s.t, s.h⟩ : St) = f a0) (i0 : Inv a0)
    (round : ∀ a, Inv a → T P b ro x (f a) (loopK b mask f Inv μ a K)) : T P b ro (.loop x) s K := by
  refine T_forget mask ?_
  rw [h0]
  intro C E0 m a w hb L S fr k cs hro hfn hroom
  have key : ∀ (j : Nat) (aa : α) m a w, μ aa = j → Inv aa → LeN E0 (env C (f aa).h m w) → Sim C (f aa) m a w →
      ∃ e a' w', Post C E0 K e a' w' ∧ ArrivesIn (Machine.fenced P (FW ro)) P (lone (fr.atR a (.code x :: .inLoop x :: k)) cs w) fr k cs e a' w' := by
    intro j
    induction j using Nat.strongRecOn with
    | _ j ih =>
      intro aa m a w hn hI L S
      obtain ⟨e, a1, w1, ⟨s1, m1, hk, S1, L1⟩, harr⟩ := round aa hI C E0 m a w hb L S fr (.inLoop x :: k) cs hro hfn hroom
      cases e with
      | normal =>
        obtain ⟨aa', hf, hI1, hlt⟩ := hk
        have S2 : Sim C ⟨forget mask s1.t, s1.h⟩ m1 a1 w1 := ⟨S1.below, S1.out, S1.len, RelL.forget mask S1.slots, S1.defers, S1.objs, S1.apart, S1.low⟩
        have hS : ∃ m2, Sim C (f aa') m2 a1 w1 ∧ LeN E0 (env C (f aa').h m2 w1) := by
          rcases hf with hf | ⟨n, h1, h2, h3, h4, h5⟩
          · rw [← hf]; exact ⟨m1, S2, L1⟩
          · obtain ⟨S3, hL, _⟩ := S2.cut n h2 h3 h4
            rw [h5]
            exact ⟨_, S3, hL E0 (by omega) L1⟩
        obtain ⟨m2, S3, L3⟩ := hS
        obtain ⟨e2, a2, w2, hq2, harr2⟩ := ih (μ aa') (hn ▸ hlt) aa' m2 a1 w1 rfl hI1 L3 S3
        exact ⟨e2, a2, w2, hq2, .of_steps (StepsIn.trans harr (.one (fenced_calm hfn hroom rfl) stepR_inLoop)) harr2⟩
      | exit id => exact ⟨_, a1, w1, ⟨s1, m1, hk, S1, L1⟩, .pass (x := .inLoop x) rfl (fun _ _ => .inl (by simp)) harr⟩
      | goto l => exact ⟨_, a1, w1, ⟨s1, m1, hk, S1, L1⟩, .pass (x := .inLoop x) rfl (fun _ _ => .inl (by simp)) harr⟩
      | ret => exact ⟨_, a1, w1, ⟨s1, m1, hk, S1, L1⟩, .pass (x := .inLoop x) rfl (fun _ _ => .inl (by simp)) harr⟩
      | panic ch => exact ⟨_, a1, w1, ⟨s1, m1, hk, S1, L1⟩, .pass (x := .inLoop x) rfl (fun _ _ => .inl (by simp)) harr⟩
      | outgrown => exact ⟨_, a1, w1, ⟨s1, m1, hk, S1, L1⟩, .pass (x := .inLoop x) rfl (fun _ _ => .inl (by simp)) harr⟩
  obtain ⟨e, a', w', hq, harr⟩ := key _ a0 m a w rfl i0 L S
  exact ⟨e, a', w', hq, .of_steps (.one (fenced_calm hfn hroom rfl) stepR_loop) harr⟩
/-- Several ways in, one way on. -/
theorem T_mid (M : St → Prop) (h : T P b ro x s (fun e s' => match e with | .normal => M s' | e => K e s')) (k : ∀ s', M s' → T P b ro y s' K) : T P b ro (.seq x y) s K :=
  T_seq (h.mono fun e s' hk => by cases e <;> first | exact k _ hk | exact hk)
end
/-! ### the ends -/
def fin (P : Program) (fn : Func) (r : V) : Exit → St → Prop := fun x s => (match x with | .normal | .ret => True | _ => False) ∧ ∃ r0, resV P fn s = some r0 ∧ convT (fun _ => true) s.h r0 = some r
theorem Ret_fin {P : Program} {f : FuncId} {fn : Func} {c : Code} {args : List V} {r : V} (hf : P.funcs[f]? = some fn) (hb : fn.body = some c) (hT : T P 0 none c ⟨enter fn args, []⟩ (fin P fn r)) : Ret P f args r := Ret_intro hf hb hT
theorem fin_ret {P : Program} {fn : Func} {r r0 : V} {s : St} (h1 : resV P fn s = some r0) (h2 : convT (fun _ => true) s.h r0 = some r) : fin P fn r .ret s := ⟨trivial, r0, h1, h2⟩
theorem fin_normal {P : Program} {fn : Func} {r r0 : V} {s : St} (h1 : resV P fn s = some r0) (h2 : convT (fun _ => true) s.h r0 = some r) : fin P fn r .normal s := ⟨trivial, r0, h1, h2⟩
/-! ### lengths that fit -/
mutual
def V.fits : V → Prop
  | .sl _ rows => rows.length ≤ 9223372036854775807 ∧ V.fitsR rows
  | .agg cs | .tup cs | .ro cs => V.fitsL cs
  | _ => True
def V.fitsL : List V → Prop
  | [] => True
  | c :: cs => c.fits ∧ V.fitsL cs
def V.fitsR : List (List V) → Prop
  | [] => True
  | r :: rs => V.fitsL r ∧ V.fitsR rs
end
mutual
theorem Rel.fits {E : Env} : ∀ (x : V) (v : Value), Rel E x v → x.fits
  | .sl sz rows, v, h => by
    simp only [Rel, V.fits] at *
    obtain ⟨A, c, rfl, hl, hr⟩ := h
    refine ⟨hl.2, ?_⟩
    rcases hr with rfl | ⟨ad, _, _, _, hR⟩
    · simp only [V.fitsR]
    · exact RelRows.fits rows ad sz 0 hR
  | .agg cs, v, h | .tup cs, v, h => by
    simp only [Rel, V.fits] at *
    obtain ⟨vs, _, hR⟩ := h
    exact RelL.fits cs _ hR
  | .ro cs, v, h => by
    simp only [Rel, V.fits] at *
    obtain ⟨ad, _, _, _, hR⟩ := h
    exact RelCells.fits cs ad 0 hR
  | .bool _, _, _ | .int _ _, _, _ | .str _, _, _ | .nil, _, _ | .ptr _ _, _, _ | .nilptr, _, _ | .arr _ _, _, _ | .arrd _ _ _, _, _ | .qptr _ _ _ _, _, _ | .aptr _ _ _ _, _, _ | .fn _ _ _, _, _ | .yield _, _, _ | .nilfn, _, _ | .nilif, _, _ | .iface _ _, _, _ | .map _, _, _ | .undef, _, _ => by simp only [V.fits]
theorem RelL.fits {E : Env} : ∀ (xs : List V) (vs : List Value), RelL E xs vs → V.fitsL xs
  | [], _, _ => by simp only [V.fitsL]
  | c :: cs, vs, h => by
    simp only [RelL, V.fitsL] at *
    obtain ⟨u, us, _, h1, h2⟩ := h
    exact ⟨Rel.fits c u h1, RelL.fits cs us h2⟩
theorem RelCells.fits {E : Env} : ∀ (xs : List V) (ad : Addr) (k : Nat), RelCells E ad k xs → V.fitsL xs
  | [], _, _, _ => by simp only [V.fitsL]
  | c :: cs, ad, k, h => by
    simp only [RelCells, V.fitsL] at *
    obtain ⟨⟨u, _, h1⟩, h2⟩ := h
    exact ⟨Rel.fits c u h1, RelCells.fits cs ad (k + 1) h2⟩
theorem RelRows.fits {E : Env} : ∀ (rows : List (List V)) (ad : Addr) (sz k : Nat), RelRows E ad sz k rows → V.fitsR rows
  | [], _, _, _, _ => by simp only [V.fitsR]
  | r :: rs, ad, sz, k, h => by
    simp only [RelRows, V.fitsR] at *
    exact ⟨RelCells.fits r ad k h.2.1, RelRows.fits rs ad sz (k + sz) h.2.2⟩
end
/-- What is handed in fits. -/
theorem Ret.of_fits {P : Program} {f : FuncId} {args : List V} {r : V} (h : V.fitsL args → Ret P f args r) : Ret P f args r := fun bad w cargs hb hR => h (RelL.fits _ _ hR) bad w cargs hb hR
/-- A nil slice is as good as an empty one. -/
inductive Wk : V → V → Prop
  | refl (x : V) : Wk x x
  | nil (sz : Nat) : Wk .nil (.sl sz [])
inductive WkL : List V → List V → Prop
  | nil : WkL [] []
  | cons {x y : V} {xs ys : List V} (h : Wk x y) (k : WkL xs ys) : WkL (x :: xs) (y :: ys)
theorem Wk.rel {E : Env} {x y : V} (h : Wk x y) {v : Value} (hv : Rel E x v) : Rel E y v := by
  cases h with
  | refl => exact hv
  | nil sz => simp only [Rel] at *; exact ⟨none, 0, hv, by simp, .inl trivial⟩
theorem WkL.rel {E : Env} {xs ys : List V} (h : WkL xs ys) : ∀ {vs : List Value}, RelL E xs vs → RelL E ys vs := by
  induction h with
  | nil => exact fun h => h
  | cons h k ih =>
    intro vs hv
    simp only [RelL] at *
    obtain ⟨u, us, rfl, h1, h2⟩ := hv
    exact ⟨u, us, rfl, h.rel h1, ih h2⟩
theorem Ret.wk {P : Program} {f : FuncId} {args args' : List V} {r : V} (h : Ret P f args' r) (hw : WkL args args') : Ret P f args r := fun bad w cargs hb hR => h bad w cargs hb (hw.rel hR)
theorem wrap_succ {k : Nat} (h : k < 9223372036854775807) : IntKind.i64.wrap ((k : Int) + 1) = ((k + 1 : Nat) : Int) := by
  rw [IntKind.wrap_i64]; omega
theorem wrap_id {n : Int} (h1 : -9223372036854775808 ≤ n) (h2 : n < 9223372036854775808) : IntKind.i64.wrap n = n := by
  rw [IntKind.wrap_i64]; omega
/-! ### what a walk unfolds -/
attribute [go_sem] binN sliceD appendD lookupV updateH mapT keyI findM runV runQ wantedV opV optV ev evs evp ofValue ofCell ofCells puts enter loadV cellsAt cur V.one indexAddrV shiftV fieldV sliceV flat splice storeH fillV buildV litV chunk rep makeV srcRows appendV binInt binV isNilV intsK solidV lenV partV forget resV resL res1 conv convL convD convDL convT frz1 frzL frzD V.all V.allL V.allR AObj.all
end Go.Ab
namespace Go.Ab
open Go Go.RowKit
set_option linter.unusedVariables false
/-! ### regions with effects, in whatever order -/
/-- The objects that operations write or make, and what each may not look at. -/
def tabL (l : List (Option (Nat × Bool))) (i : Nat) : Option (Nat × Bool) := (l[i]?).join
def forL (l : List (List Nat)) (i a : Nat) : Bool := !((l[i]?).getD []).contains a
def okC : Option (Nat × Bool) → Option (Nat × Bool) → Bool
  | none, _ => true
  | some (a, g), some (b, g') => a == b && g == g'
  | some _, none => false
theorem okC_spec {x y : Option (Nat × Bool)} {a : Nat} {g : Bool} (h : okC x y = true) (hx : x = some (a, g)) : y = some (a, g) := by
  subst hx
  cases y with
  | none => simp [okC] at h
  | some y =>
    obtain ⟨b, g'⟩ := y
    simp only [okC, Bool.and_eq_true, beq_iff_eq] at h
    obtain ⟨rfl, rfl⟩ := h
    all_goals rfl
def RegDL {P : Program} (F : Facts P) (ops : Array Oper) (tab : Nat → Option (Nat × Bool)) (p : Nat → Nat → Bool) (K : St → Prop) : List Nat → St → Prop
  | [], s => K s
  | i :: l, s => ∃ o v eff, ops[i]? = some o ∧ Local F ops (p i) i o s v eff ∧ conf tab i s eff ∧ RegDL F ops tab p K l ⟨puts s.t o.dst v, eff.app s.h⟩
theorem RegDL.regD {P : Program} {F : Facts P} {ops : Array Oper} {tab : Nat → Option (Nat × Bool)} {p : Nat → Nat → Bool} {K : St → Prop} : ∀ (n k : Nat) {s : St}, RegDL F ops tab p K (List.range' k n) s → RegD F ops tab p K n k s
  | 0, k, s, h => h
  | n + 1, k, s, h => by
    obtain ⟨o, v, eff, ho, hL, hc, hk⟩ := h
    exact ⟨o, v, eff, ho, hL, hc, RegDL.regD n (k + 1) hk⟩
def runD {P : Program} (F : Facts P) (ops : Array Oper) (tab : Nat → Option (Nat × Bool)) (p : Nat → Nat → Bool) : List Nat → St → Option St
  | [], s => some s
  | i :: l, s => match ops[i]? with
    | none => none
    | some o => match wantedV ops s o with
      | none => none
      | some false => runD F ops tab p l ⟨puts s.t o.dst (.tup []), s.h⟩
      | some true => if (seen (p i) s o.op && tame s o.op && okC (cidOf s o.op) (tab i)) = true then (match opV F s o.op with
        | some (some v, h') => runD F ops tab p l ⟨puts s.t o.dst v, h'⟩
        | some (none, h') => runD F ops tab p l ⟨puts s.t o.dst (.tup []), h'⟩
        | none => none) else none
theorem Local.of_op {P : Program} {F : Facts P} {ops : Array Oper} {tab : Nat → Option (Nat × Bool)} {p : Nat → Nat → Bool} {i : Nat} {o : Oper} {s : St} {r : Option V} {h' : List AObj} (ho : ops[i]? = some o) (hw : wantedV ops s o = some true) (hop : opV F s o.op = some (r, h'))
    (hs : seen (p i) s o.op = true) (ht : tame s o.op = true) (hc : okC (cidOf s o.op) (tab i) = true) : ∃ eff, h' = eff.app s.h ∧ Local F ops (p i) i o s (r.getD (.tup [])) eff ∧ conf tab i s eff := by
  obtain ⟨eff, rfl, hd, hl⟩ := opV_local hs ht hop
  refine ⟨eff, rfl, ⟨fun s2 h1 h2 h3 h4 => ?_, fun a o' he => ?_⟩, ?_⟩
  · have := hl s2 h1 h3 h4
    cases r with
    | some v => exact .val ho (h2.trans hw) this
    | none => exact .eff ho (h2.trans hw) this
  · subst he; exact ⟨hd.1, hd.2.1⟩
  · cases eff with
    | none => trivial
    | set a o' => exact okC_spec hc hd.2.2
    | push o' => exact okC_spec hc hd
theorem runD_append {P : Program} {F : Facts P} {ops : Array Oper} {tab : Nat → Option (Nat × Bool)} {p : Nat → Nat → Bool} {K : St → Prop} : ∀ {l1 : List Nat} {s s1 : St} {l2 : List Nat}, runD F ops tab p l1 s = some s1 → RegDL F ops tab p K l2 s1 → RegDL F ops tab p K (l1 ++ l2) s
  | [], s, s1, l2, h, k => by
    simp only [runD, Option.some.injEq] at h
    subst h; exact k
  | i :: l, s, s1, l2, h, k => by
    simp only [runD] at h
    split at h
    · cases h
    · rename_i o ho
      split at h
      · cases h
      · rename_i hw
        exact ⟨o, .tup [], .none, ho, ⟨fun s2 _ h2 _ _ => .skip ho (h2.trans hw), fun _ _ he => by cases he⟩, trivial, runD_append h k⟩
      · rename_i hw
        split at h
        · rename_i hb
          simp only [Bool.and_eq_true] at hb
          split at h
          · rename_i v h' hop
            obtain ⟨eff, rfl, hL, hc⟩ := Local.of_op (tab := tab) (p := p) ho hw hop hb.1.1 hb.1.2 hb.2
            exact ⟨o, v, eff, ho, hL, hc, runD_append h k⟩
          · rename_i h' hop
            obtain ⟨eff, rfl, hL, hc⟩ := Local.of_op (tab := tab) (p := p) ho hw hop hb.1.1 hb.1.2 hb.2
            exact ⟨o, .tup [], eff, ho, hL, hc, runD_append h k⟩
          · cases h
        · cases h
section
variable {P : Program} {b : Nat} {ro : Option Nat} {s s' s1 : St} {K : Exit → St → Prop} {id : Nat} {ops : Array Oper} {x y z : Code} {c : Operand} {t : Bool} {l l1 : List Nat} {KK : St → Prop} {tab : Nat → Option (Nat × Bool)} {p : Nat → Nat → Bool}
theorem D_pre {F : Facts P} (l1 l2 : List Nat) (h : runD F ops tab p l1 s = some s1) (k : RegDL F ops tab p KK l2 s1) : RegDL F ops tab p KK (l1 ++ l2) s := runD_append h k
theorem D_run {F : Facts P} (h : runD F ops tab p l s = some s1) (k : RegDL F ops tab p KK [] s1) : RegDL F ops tab p KK l s := by
  have := runD_append h k
  rwa [List.append_nil] at this
theorem D_nil {F : Facts P} (k : KK s) : RegDL F ops tab p KK [] s := k
theorem D_guard {F : Facts P} {i : Nat} {o : Oper} (ho : ops[i]? = some o) (hw : wantedV ops s o = some t) (h1 : t = true → RegDL F ops tab p KK (i :: l) s) (h2 : t = false → RegDL F ops tab p KK (i :: l) s) : RegDL F ops tab p KK (i :: l) s := by
  cases t
  · exact h2 rfl
  · exact h1 rfl
theorem D_call {F : Facts P} {i : Nat} {o : Oper} {f : Operand} {args : Array Operand} {ts : Array TypeId} {g : FuncId} {first caps vs dargs : List V} {r : V} (ho : ops[i]? = some o) (hw : wantedV ops s o = some true)
    (hop : o.op = .call ⟨.value f, args, ts⟩) (hx : ev s f = some (.fn g first caps)) (ha : evs s args.toList = some vs) (hb : ∃ fn, P.funcs[g]? = some fn ∧ fn.body.isSome = true ∧ (fn.name == "runtime.NumGoroutine") = false)
    (hs : V.allL (p i) (first ++ vs ++ caps) = true) (hc : convDL (fun b => b) s.h (first ++ vs ++ caps) = some dargs) (hr : Ret P g dargs r) (k : RegDL F ops tab p KK l ⟨puts s.t o.dst r, s.h⟩) : RegDL F ops tab p KK (i :: l) s := by
  refine ⟨o, r, .none, ho, ⟨fun s2 h1 h2 h3 _ => ?_, fun _ _ he => by cases he⟩, trivial, k⟩
  have hops : ∀ y ∈ #[f] ++ args, ev s2 y = ev s y := fun y hy => h1 y (by rw [hop]; exact hy)
  have hc2 : convDL (fun b => b) s2.h (first ++ vs ++ caps) = some dargs := by
    rw [convDL_local (p := p i) h3 hs]; exact hc
  refine .call ho (h2.trans hw) hop ((hops f (by simp)).trans hx) ((evs_congr (fun y hy => hops y (by simp at hy ⊢; exact .inr hy))).trans ha) hb ?_
  have := Ret.shared hr rfl (h := s2.h) (args := first ++ vs ++ caps) (by rw [frzD_of_conv hc2]; exact hc2)
  rw [frzD_of_conv hc2] at this
  exact this
theorem T_dL (F : Facts P) (tb : List (Option (Nat × Bool))) (fb : List (List Nat)) (l : List Nat) (hl : List.range ops.size = l) (hB : lexD .any ops (tabL tb) (forL fb) ops.size 0 (Array.replicate ops.size false) = true)
    (k : RegDL F ops (tabL tb) (forL fb) (K .normal) l s) : T P b ro (.region id ops true) s K := by
  refine T_regionD (F := F) hB ?_
  exact RegDL.regD _ 0 (by rw [← List.range_eq_range', hl]; exact k)
/-- A nil slice may be read as a row of one's own that is still empty. -/
theorem T_ghost (d T sz : Nat) (h : s.t[d]? = some .nil) (k : Ab.T P b ro x ⟨s.t.set d (.arr s.h.length 0), s.h ++ [.arr T sz [] false]⟩ K) : Ab.T P b ro x s K := by
  intro C E0 m a w hb L S
  obtain ⟨u, hu, hr⟩ := RelL.get d S.slots h
  simp only [Rel] at hr; subst hr
  have hl := S.len
  obtain ⟨S1, U1⟩ := S.add (o := .arr T sz [] false) (v := .slice none 0 0) (w' := w) (Below.refl _ w) (fun b hb => by cases hb) (fun _ => by
    refine ⟨[], ⟨by simp, .inl ⟨rfl, rfl⟩⟩, ?_, fun r hr => by cases hr⟩
    simp only [List.flatten_nil, RelL])
  have hslots : RelL (env C (s.h ++ [.arr T sz [] false]) (m ++ [.slice none 0 0]) w) (s.t.set d (.arr s.h.length 0)) a.tmps.toList := by
    have h1 := RelL.set d (x := .arr s.h.length 0) (u := .slice none 0 0) S1.slots (by
      simp only [Rel, env]
      refine ⟨by simp, fun T' sz' rows fr ho => ?_⟩
      simp only [List.getElem?_concat_length, Option.some.injEq, AObj.arr.injEq] at ho
      obtain ⟨_, _, rfl, _⟩ := ho
      exact ⟨by simp, fun _ => by rw [← hl]; simp⟩)
    have h2 : a.tmps.toList.set d (.slice none 0 0) = a.tmps.toList := by
      obtain ⟨hlt, he⟩ := List.getElem?_eq_some_iff.1 hu
      rw [← he]
      exact List.set_getElem_self hlt
    rw [h2] at h1
    exact h1
  exact k C E0 _ a w hb (L.trans U1.leN) ⟨S1.below, S1.out, S1.len, hslots, S1.defers, S1.objs, S1.apart, S1.low⟩
end
attribute [go_sem] runD seen seenE seenA tameE cidE tame cidOf okC tabL forL Op.operands Call.operands
end Go.Ab
namespace Go.Ab
open Go Go.RowKit
set_option linter.unusedVariables false
section
variable {P : Program} {b : Nat} {ro : Option Nat} {s s' : St} {K : Exit → St → Prop} {x y : Code} {α : Type} {mask : List Bool} {g : α → St} {Post : α → Prop}
/-! ### several ways in, one way on -/
def joinK (mask : List Bool) (g : α → St) (Post : α → Prop) (K : Exit → St → Prop) : Exit → St → Prop
  | .normal, s' => ∃ a, (⟨forget mask s'.t, s'.h⟩ : St) = g a ∧ Post a
  | e, s' => K e s'
theorem T_join (mask : List Bool) (g : α → St) (Post : α → Prop) (h : T P b ro x s (joinK mask g Post K)) (k : ∀ a, Post a → T P b ro y (g a) K) : T P b ro (.seq x y) s K :=
  T_seq (h.mono fun e s' hk => by
    cases e with
    | normal =>
      obtain ⟨a, h1, h2⟩ := hk
      have := k a h2
      rw [← h1] at this
      exact T_forget mask this
    | _ => exact hk)
theorem K_join (a : α) (h1 : (⟨forget mask s.t, s.h⟩ : St) = g a) (h2 : Post a) : joinK mask g Post K .normal s := ⟨a, h1, h2⟩
theorem K_joinE {j : Nat} (h : K (.exit j) s) : joinK mask g Post K (.exit j) s := h
theorem K_joinR (h : K .ret s) : joinK mask g Post K .ret s := h
end
end Go.Ab
namespace Go.Ab
open Go Go.RowKit
set_option linter.unusedVariables false
/-! ### functions that are handed function values: the heap is the caller's -/
/-- The end of a call that leaves the caller's heap as it was. -/
def finS (P : Program) (fn : Func) (h : List AObj) (r : V) : Exit → St → Prop := fun x s => (match x with | .normal | .ret => True | _ => False) ∧ resV P fn s = some r ∧ s.h.take h.length = h ∧ h.length ≤ s.h.length
/-- All that the heap holds leads into it. -/
def Closed (h : List AObj) : Prop := ∀ o ∈ h, o.all (fun i => decide (i < h.length)) = true
theorem RetS_fin {P : Program} {f : FuncId} {fn : Func} {c : Code} {args : List V} {h : List AObj} {r : V} (hf : P.funcs[f]? = some fn) (hb : fn.body = some c) (hr : r.all (fun i => decide (i < h.length)) = true) (hc : Closed h)
    (hT : T P h.length none c ⟨enter fn args, h⟩ (finS P fn h r)) : RetS P f args h r h :=
  RetS_intro hf hb (hT.mono fun x s ⟨h1, h2, h3, h4⟩ => ⟨h1, h2, h.length, Nat.le_refl _, h4, h3, hr, hc⟩)
theorem finS_ret {P : Program} {fn : Func} {h : List AObj} {r r0 : V} {s : St} (h1 : resV P fn s = some r0) (h2 : s.h.take h.length = h) (h3 : h.length ≤ s.h.length) (h4 : r0 = r) : finS P fn h r .ret s := ⟨trivial, h4 ▸ h1, h2, h3⟩
theorem heap_new (h l : List AObj) (o : AObj) : (h ++ o :: l)[h.length]? = some o := by simp
theorem heap_new1 (h l : List AObj) (o p : AObj) : (h ++ o :: p :: l)[h.length + 1]? = some p := by simp
theorem heap_len1 (h : List AObj) (o : AObj) : (h ++ [o]).length = h.length + 1 := by simp
theorem heap_len2 (h : List AObj) (o p : AObj) : (h ++ [o, p]).length = h.length + 2 := by simp
theorem heap_set (h l : List AObj) (o p : AObj) : (h ++ o :: l).set h.length p = h ++ p :: l := by simp
theorem heap_set1 (h l : List AObj) (o p q : AObj) : (h ++ o :: q :: l).set (h.length + 1) p = h ++ o :: p :: l := by
  rw [List.set_append_right _ _ (by omega)]; simp
theorem heap_take (h l : List AObj) : (h ++ l).take h.length = h := by simp
theorem heap_app (h l m : List AObj) : (h ++ l) ++ m = h ++ (l ++ m) := by simp
end Go.Ab
namespace Go.Ab
open Go Go.RowKit
set_option linter.unusedVariables false
/-! ### loops over functions -/
def zipSet : List V → List Tmp → List V → List V
  | t, p :: ps, a :: asg => zipSet (t.set p a) ps asg
  | t, _, _ => t
theorem RelL.zipSet {E : Env} : ∀ (ps : List Tmp) {t asg : List V} {us : Array Value} {vs : List Value}, RelL E t us.toList → RelL E asg vs → RelL E (zipSet t ps asg) ((ps.zip vs).foldl (fun (tm : Array Value) (x : Tmp × Value) => tm.setIfInBounds x.1 x.2) us).toList
  | [], t, asg, us, vs, h, k => by simpa [Ab.zipSet] using h
  | p :: ps, t, [], us, vs, h, k => by
    simp only [RelL] at k; subst k
    simpa [Ab.zipSet] using h
  | p :: ps, t, a :: asg, us, vs, h, k => by
    simp only [RelL] at k
    obtain ⟨u, us', rfl, k1, k2⟩ := k
    simp only [Ab.zipSet, List.zip_cons_cons, List.foldl_cons]
    exact RelL.zipSet ps (by simpa [Array.toList_setIfInBounds] using RelL.set p h k1) k2
/-- How a round may be left: what is pending then. -/
def roundExit : Exit → Option (Option Code)
  | .normal => some none
  | .ret => some (some .ret)
  | .exit id => some (some (.exit id))
  | _ => none
def roundK (b i : Nat) (r : V) (h' : List AObj) : Exit → St → Prop := fun x s => ∃ jump pe tm ps asg bd n, roundExit x = some jump ∧ s.h[i]? = some (.loop .busy pe tm ps asg bd) ∧ r = .bool jump.isNone ∧ b ≤ n ∧ n ≤ s.h.length ∧
  (s.h.set i (.loop (if jump.isNone then .ready else .done) jump tm ps asg bd)).take n = h' ∧ ∀ o ∈ h', o.all (fun i => decide (i < n)) = true
/-- A loop's record turns. -/
theorem Sim.loop {C : Ctx} {s : St} {m : List Value} {a : Act} {w : World} (S : Sim C s m a w) {i b : Nat} {st : LoopState} {pe : Option Code} {tm : List V} {ps : Array Tmp} {asg bd : Code} (ho : s.h[i]? = some (.loop st pe tm ps asg bd)) (hm : m[i]? = some (.func (.yield b) #[] #[])) :
    ∃ fn us df, w.heap[b]? = some (.loop { state := st, pending := pe, fn, tmps := us, params := ps, assign := asg, body := bd, defers := df }) ∧ RelL (env C s.h m w) tm us.toList ∧
      ∀ st' pe', Sim C ⟨s.t, s.h.set i (.loop st' pe' tm ps asg bd)⟩ m a (w.putObj b (.loop { state := st', pending := pe', fn, tmps := us, params := ps, assign := asg, body := bd, defers := df })) ∧
        Up (env C s.h m w) (env C (s.h.set i (.loop st' pe' tm ps asg bd)) m (w.putObj b (.loop { state := st', pending := pe', fn, tmps := us, params := ps, assign := asg, body := bd, defers := df }))) := by
  obtain ⟨b', fn, us, df, he, h1, h2, h3⟩ := S.objs i _ _ ho hm
  cases he
  refine ⟨fn, us, df, h2, h3, fun st' pe' => ?_⟩
  have hlt : b < w.heap.size := cells_lt h2
  obtain ⟨h4, L⟩ := S.turn (o' := .loop st' pe' tm ps asg bd) (v' := .func (.yield b) #[] #[]) ho hm rfl (.inr (.inr (.inr (.inr ⟨_, _, _, _, _, _, _, _, _, rfl, rfl, rfl⟩))))
    (grownBy_put w b (.loop { state := st', pending := pe', fn, tmps := us, params := ps, assign := asg, body := bd, defers := df })) (.inl rfl)
    (fun L => ⟨b, fn, us, df, rfl, h1, World.putObj_heap_same hlt, h3.le L⟩)
  have hs : m.set i (.func (.yield b) #[] #[]) = m := by
    obtain ⟨hl, he⟩ := List.getElem?_eq_some_iff.1 hm
    rw [← he]; exact List.set_getElem_self hl
  rw [hs] at h4 L
  exact ⟨h4, L⟩
theorem RetY_intro {P : Program} {i : Nat} {pe : Option Code} {tm : List V} {ps : Array Tmp} {asg bd : Code} {args : List V} {h h' : List AObj} {r : V} (ho : h[i]? = some (.loop .ready pe tm ps asg bd)) (hl : args.length = ps.size)
    (hT : ∀ ro, T P h.length ro asg ⟨zipSet tm ps.toList args, h⟩ (fun x s1 => x = .normal ∧ ∃ pe1 tm1 ps1 as1 bd1, s1.h[i]? = some (.loop .ready pe1 tm1 ps1 as1 bd1) ∧ T P h.length ro bd ⟨s1.t, s1.h.set i (.loop .busy pe1 tm1 ps1 as1 bd1)⟩ (roundK h.length i r h'))) : RetY P i args h r h' := by
  intro C t m a w cargs ro b S hR hm
  obtain ⟨fn, us, df, hh, hus, _⟩ := S.loop ho hm
  have hlen := hR.length
  have hla : cargs.size = ps.size := by simp at hlen; omega
  have hy := run_yield (P := P) (args := cargs) hh (by simpa using hla)
  refine ⟨_, _, _, _, hy, roundIn_of_wpIn (F := FW ro) trivial ?_⟩
  have hz : (ps.zip cargs).foldl (fun tmps (x : Tmp × Value) => tmps.setIfInBounds x.1 x.2) us = (ps.toList.zip cargs.toList).foldl (fun tmps (x : Tmp × Value) => tmps.setIfInBounds x.1 x.2) us := by
    rw [← Array.foldl_toList, Array.toList_zip]
  have hS0 : Sim { C with at0 := w.heap.size, base := [] } ⟨zipSet tm ps.toList args, h⟩ m { tmps := (ps.zip cargs).foldl (fun tmps (x : Tmp × Value) => tmps.setIfInBounds x.1 x.2) us, defers := [] } w := by
    refine ⟨S.below, S.out, S.len, ?_, Marks.nil S.below.size (Nat.le_refl _), S.objs, S.apart, S.low⟩
    rw [hz]
    exact RelL.zipSet ps.toList hus hR
  have hw := hT (some b) { C with at0 := w.heap.size, base := [] } (env C h m w) m _ w rfl (LeN.refl _) hS0
  refine wpIn_mono hw ?_
  rintro e a1 w1 ⟨s1, m1, ⟨rfl, pe1, tm1, ps1, as1, bd1, ho1, hT2⟩, S1, L1⟩
  have hm1 : m1[i]? = some (.func (.yield b) #[] #[]) := L1.le.mp i (by have := (List.getElem?_eq_some_iff.1 ho).1; simpa [env] using this) _ hm (by simp)
  obtain ⟨fn1, us1, df1, hh1, _, hturn⟩ := S1.loop ho1 hm1
  refine ⟨_, run_beginRound hh1 rfl, ?_⟩
  obtain ⟨S2, U2⟩ := hturn .busy pe1
  have hw2 := hT2 { C with at0 := w.heap.size, base := [] } (env C h m w) m1 _ _ rfl (L1.trans U2.leN) S2
  refine wpIn_mono hw2 ?_
  rintro e a2 w2 ⟨s2, m2, ⟨jump, pe2, tm2, ps2, as2, bd2, n, hx, ho2, hr, hn1, hn2, hn3, hall⟩, S3, L3⟩
  have hm2 : m2[i]? = some (.func (.yield b) #[] #[]) := L3.le.mp i (by have := (List.getElem?_eq_some_iff.1 ho).1; simpa [env] using this) _ hm (by simp)
  obtain ⟨fn2, us2, df2, hh2, _, hturn2⟩ := S3.loop ho2 hm2
  have key : ∀ jump', jump' = jump → ∃ v w', (Instr.endRound b jump').run P w2 = .ok v w' ∧ ∃ v_1 m', Ending.returned v = .returned v_1 ∧ Sim C ⟨t, h'⟩ m' a w' ∧ Rel (env C h' m' w') r v_1 ∧ LeN (env C h m w) (env C h' m' w') := by
    rintro jump' rfl
    obtain ⟨S4, U4⟩ := hturn2 (if jump'.isNone then .ready else .done) jump'
    have L4 := L3.trans U4.leN
    refine ⟨_, _, run_endRound jump' hh2, _, m2.take n, rfl, ?_⟩
    have hslots : RelL _ t a.tmps.toList := RelL.leN L4 (by simp only [env]; exact Nat.le_of_eq S.len) S.slots
    have hids : V.allL (fun i => decide (i < n)) t = true := by
      have h1 := RelL.ids (N := h.length) (by simp only [env]; exact Nat.le_of_eq S.len) (by simp only [env]; exact Nat.le_refl _) t S.slots
      exact V.allL_imp (fun i hi => by simp at *; omega) t h1
    have S5 : Sim C ⟨t, _⟩ m2 a _ := ⟨S4.below, S4.out, S4.len, hslots, S.defers.le L4.le, S4.objs, S4.apart, S4.low⟩
    obtain ⟨S6, hL2, hL3⟩ := S5.cut n (by simpa using hn2) hids (by simp only [hn3]; exact hall)
    have hL := hL2 (env C h m w) hn1 L4
    simp only [hn3] at S6 hL
    refine ⟨S6, ?_, hL⟩
    subst hr
    simp only [Rel]
  cases e <;> simp only [roundExit, Option.some.injEq, reduceCtorEq] at hx
  all_goals exact key _ hx
/-- A loop over a function begins: its mark is set. -/
theorem Sim.mark {C : Ctx} {s : St} {m : List Value} {a : Act} {w : World} (S : Sim C s m a w) : Sim C s m { a with defers := { target := .collected w.heap.size, args := #[] } :: a.defers } (w.alloc (.deferred (some []))) := by
  have S1 := S.world (below_alloc' w (.deferred (some [])))
  obtain ⟨⟨h1, h2⟩, ms, hms, h3, h4⟩ := S.defers
  have L := le_world (C := C) (h := s.h) (m := m) (below_alloc' w (.deferred (some [])))
  obtain ⟨g, _⟩ := S1.defers
  simp only [env] at h2
  refine ⟨S1.below, S1.out, S1.len, S1.slots, ⟨g, { target := .collected w.heap.size, args := #[] } :: ms, by simp [hms], fun d hd => ?_, ?_⟩, S1.objs, S1.apart, S1.low⟩
  · rcases List.mem_cons.1 hd with rfl | hd
    · refine ⟨w.heap.size, rfl, h2, by simp only [env]; rw [size_alloc']; omega, fun hb => ?_, by simp only [env]; exact alloc_new _ _⟩
      rcases hb with hb | ⟨i, o, v, k1, k2, k3, k4⟩
      · have := S.out _ hb
        have := S.below.size
        omega
      · have := (S.low i v _ k3 k4).2
        omega
    · exact (h3 d hd).le L
  · rw [List.pairwise_cons]
    refine ⟨fun d hd e => ?_, h4⟩
    obtain ⟨b, rfl, k1, k2, k3, k4⟩ := h3 d hd
    simp only [Target.collected.injEq] at e
    simp only [env] at k2
    omega
def contK (P : Program) (b : Nat) (K : Exit → St → Prop) : Option Code → St → Prop
  | none, s => K .normal s
  | some c, s => T P b none c s K
theorem T_rangeFunc {P : Program} {b : Nat} {s : St} {K : Exit → St → Prop} {g : Operand} {ps : Array Tmp} {asg bd : Code} {gf : FuncId} {first caps : List V} {r : V} {st : LoopState} {pe : Option Code} {tm : List V} {ps' : Array Tmp} {as' bd' : Code} {h1 : List AObj}
    (hx : ev s g = some (.fn gf first caps)) (hb : ∃ fn, P.funcs[gf]? = some fn ∧ fn.body.isSome = true ∧ (fn.name == "runtime.NumGoroutine") = false)
    (hr : RetS P gf (first ++ [.yield s.h.length] ++ caps) (s.h ++ [.loop .ready none s.t ps asg bd]) r h1) (ho : h1[s.h.length]? = some (.loop st pe tm ps' as' bd')) (hst : st ≠ .busy)
    (k : contK P b K pe ⟨s.t, h1.set s.h.length (.loop .exhausted pe tm ps' as' bd')⟩) : T P b none (.rangeFunc g ps asg bd) s K := by
  intro C E0 m a w hb0 L S
  refine wpIn_rangeFunc fun fn hfn => ?_
  have hRx := ev_sound S hx
  simp only [Rel] at hRx
  obtain ⟨fa, ca, he, hfa, hca⟩ := hRx
  obtain ⟨fn', hfn', hbody, hname⟩ := hb
  have hnb : ¬ fn'.body = none := fun e => by simp [e] at hbody
  have hne : ¬ fn'.name = "runtime.NumGoroutine" := by simpa using hname
  have hcf : ∀ cargs W, (callFunc gf cargs).run P W = .ok (.enter gf cargs) W := fun cargs W => by
    simp [callFunc, hfn', hne, hnb]
  have hsz : (w.alloc (.deferred (some []))).heap.size = w.heap.size + 1 := size_alloc' _ _
  have S1 := S.mark
  obtain ⟨S2, U2⟩ := S1.add (o := .loop .ready none s.t ps asg bd) (v := .func (.yield (w.heap.size + 1)) #[] #[])
    (below_alloc' (w.alloc (.deferred (some []))) (.loop { state := .ready, pending := none, fn, tmps := a.tmps, params := ps, assign := asg, body := bd, defers := w.heap.size }))
    (fun b' hb' => by simp only [blk, Option.some.injEq] at hb'; subst hb'; exact ⟨by omega, by rw [size_alloc', hsz]; omega⟩)
    (fun L => ⟨w.heap.size + 1, fn, a.tmps, w.heap.size, rfl, by have := S.below.size; omega, by rw [← hsz]; exact alloc_new _ _, S1.slots.le L⟩)
  have U1 : Up (env C s.h m w) (env C s.h m (w.alloc (.deferred (some [])))) := up_world (below_alloc' w _)
  have UU := U1.trans U2
  have hargs : RelL (env C (s.h ++ [.loop .ready none s.t ps asg bd]) (m ++ [.func (.yield (w.heap.size + 1)) #[] #[]]) ((w.alloc (.deferred (some []))).alloc (.loop { state := .ready, pending := none, fn, tmps := a.tmps, params := ps, assign := asg, body := bd, defers := w.heap.size })))
      (first ++ [.yield s.h.length] ++ caps) (fa ++ #[Value.func (.yield (w.heap.size + 1)) #[] #[]] ++ ca).toList := by
    simp only [Array.toList_append]
    refine ((hfa.le UU.2).append ?_).append (hca.le UU.2)
    simp only [RelL, Rel, env]
    exact ⟨_, _, rfl, ⟨w.heap.size + 1, by rw [← S.len]; simp, rfl⟩, rfl⟩
  refine ⟨w.heap.size + 1, [{ target := .collected w.heap.size, args := #[] }], _, { target := .fn (Fn.func gf) ca, args := fa ++ #[Value.func (.yield (w.heap.size + 1)) #[] #[]] }, ((w.alloc (.deferred (some []))).alloc (.loop { state := .ready, pending := none, fn, tmps := a.tmps, params := ps, assign := asg, body := bd, defers := w.heap.size })), gf, fa ++ #[Value.func (.yield (w.heap.size + 1)) #[] #[]] ++ ca, _,
    run_enterLoop_outer _ _ _ _ _, ?_, fun f' hf' => trivial, ?_, fun h => by simp [FW, Fence.wide] at h, Calls.inFW none _ (Calls.mono (hr C s.t _ _ _ _ S2 hargs) ?_)⟩
  · simp only [resolve, he]
    simp [go_sem, Deferred.ofValue]
  · simp [invoke, hcf]
  · rintro e w3 ⟨v, m3, rfl, S3, hR3, L3⟩
    have hm3 : m3[s.h.length]? = some (Value.func (.yield (w.heap.size + 1)) #[] #[]) := L3.le.mp _ (by simp [env]) _ (by simp only [env]; rw [← S.len]; simp) (by simp)
    obtain ⟨fn3, us3, df3, hh3, _, hturn⟩ := S3.loop ho hm3
    obtain ⟨S4, U4⟩ := hturn .exhausted pe
    refine ⟨pe, _, run_endLoop hh3 hst, ?_⟩
    have L4 := L.trans (UU.leN.trans (L3.trans U4.leN))
    cases pe with
    | none => exact ⟨_, m3, k, S4, L4⟩
    | some c => exact k C E0 m3 _ _ hb0 L4 S4
/-! ### scopes and labels -/
def scopeK (K : Exit → St → Prop) : Exit → St → Prop
  | .goto _, _ => False
  | x, s => K x s
theorem stepR_scope' {P : Program} {b : Frame} {a : Act} {k : List Item} {cs : List Frame} {w : World} {c : Code} : step P (lone (b.atR a (.code (.scope c) :: k)) cs w) = .next (lone (b.atR a (.code c :: .inScope c :: k)) cs w) :=
  step_lone_go (by simp [stepG, stepG.exec, Frame.atR])
theorem stepR_inScope' {P : Program} {b : Frame} {a : Act} {k : List Item} {cs : List Frame} {w : World} {c : Code} : step P (lone (b.atR a (.inScope c :: k)) cs w) = .next (lone (b.atR a k) cs w) :=
  step_lone_go (by simp [stepG, stepG.exec, Frame.atR])
section
variable {P : Program} {b : Nat} {ro : Option Nat} {s : St} {K : Exit → St → Prop}
theorem T_label {l : Nat} (h : K .normal s) : T P b ro (.label l) s K := fun C E0 m a w hb L S => wpIn_label ⟨s, m, h, S, L⟩
theorem T_scope {c : Code} (h : T P b ro c s (scopeK K)) : T P b ro (.scope c) s K := by
  intro C E0 m a w hb L S fr k cs hro hfn hroom
  obtain ⟨e, a1, w1, ⟨s1, m1, hk, S1, L1⟩, harr⟩ := h C E0 m a w hb L S fr (.inScope c :: k) cs hro hfn hroom
  have h0 : StepsIn (Machine.fenced P (FW ro)) P (lone (fr.atR a (.code (.scope c) :: k)) cs w) (lone (fr.atR a (.code c :: .inScope c :: k)) cs w) := .one (fenced_calm hfn hroom rfl) stepR_scope'
  cases e with
  | normal => exact ⟨.normal, a1, w1, ⟨s1, m1, hk, S1, L1⟩, .of_steps h0 (StepsIn.trans harr (.one (fenced_calm hfn hroom rfl) stepR_inScope'))⟩
  | exit id => exact ⟨.exit id, a1, w1, ⟨s1, m1, hk, S1, L1⟩, .of_steps h0 ⟨fun k' hk => harr.1 k' (by simp [exitTo, hk]), fun hr hk => harr.2 hr (by simp [exitTo, hk])⟩⟩
  | goto l => exact hk.elim
  | ret => exact ⟨_, a1, w1, ⟨s1, m1, hk, S1, L1⟩, .of_steps h0 harr⟩
  | panic ch => exact ⟨_, a1, w1, ⟨s1, m1, hk, S1, L1⟩, .of_steps h0 harr⟩
  | outgrown => exact ⟨_, a1, w1, ⟨s1, m1, hk, S1, L1⟩, .of_steps h0 harr⟩
end
end Go.Ab
namespace Go.Ab
open Go Go.RowKit
set_option linter.unusedVariables false
/-! ### values, brought to their form -/
def fNat {α : Type} (n : Nat) (k : Nat → α) : α := Nat.rec (k 0) (fun m _ => k (m + 1)) n
theorem fNat_eq {α : Type} (n : Nat) (k : Nat → α) : fNat n k = k n := by cases n <;> rfl
def fInt {α : Type} (n : Int) (k : Int → α) : α :=
  match n with
  | .ofNat m => fNat m fun m => k (.ofNat m)
  | .negSucc m => fNat m fun m => k (.negSucc m)
theorem fInt_eq {α : Type} (n : Int) (k : Int → α) : fInt n k = k n := by cases n <;> simp [fInt, fNat_eq]
def fBool {α : Type} (b : Bool) (k : Bool → α) : α :=
  match b with
  | true => k true
  | false => k false
theorem fBool_eq {α : Type} (b : Bool) (k : Bool → α) : fBool b k = k b := by cases b <;> rfl
def fV0 {α : Type} (v : V) (k : V → α) : α :=
  match v with
  | .int kd n => fInt n fun n => k (.int kd n)
  | .bool b => fBool b fun b => k (.bool b)
  | .ptr i o => fNat i fun i => fNat o fun o => k (.ptr i o)
  | .arr i n => fNat i fun i => fNat n fun n => k (.arr i n)
  | .arrd i n d => fNat i fun i => fNat n fun n => fNat d fun d => k (.arrd i n d)
  | .yield i => fNat i fun i => k (.yield i)
  | .map i => fNat i fun i => k (.map i)
  | v => k v
theorem fV0_eq {α : Type} (v : V) (k : V → α) : fV0 v k = k v := by
  cases v <;> simp only [fV0, fNat_eq, fInt_eq, fBool_eq]
noncomputable def fL0 {α : Type} (l : List V) : (List V → α) → α := List.rec (fun k => k []) (fun c _ ih k => fV0 c fun c => ih fun cs => k (c :: cs)) l
theorem fL0_eq {α : Type} : ∀ (l : List V) (k : List V → α), fL0 l k = k l
  | [], k => rfl
  | c :: cs, k => by
    show (fV0 c fun c => fL0 cs fun cs => k (c :: cs)) = _
    simp only [fV0_eq, fL0_eq cs]
noncomputable def fV1 {α : Type} (v : V) (k : V → α) : α :=
  match v with
  | .agg cs => fL0 cs fun cs => k (.agg cs)
  | v => fV0 v k
theorem fV1_eq {α : Type} (v : V) (k : V → α) : fV1 v k = k v := by
  cases v <;> simp only [fV1, fV0_eq, fL0_eq]
noncomputable def fL1 {α : Type} (l : List V) : (List V → α) → α := List.rec (fun k => k []) (fun c _ ih k => fV1 c fun c => ih fun cs => k (c :: cs)) l
theorem fL1_eq {α : Type} : ∀ (l : List V) (k : List V → α), fL1 l k = k l
  | [], k => rfl
  | c :: cs, k => by
    show (fV1 c fun c => fL1 cs fun cs => k (c :: cs)) = _
    simp only [fV1_eq, fL1_eq cs]
noncomputable def fRows {α : Type} (l : List (List V)) : (List (List V) → α) → α := List.rec (fun k => k []) (fun c _ ih k => fL0 c fun c => ih fun cs => k (c :: cs)) l
theorem fRows_eq {α : Type} : ∀ (l : List (List V)) (k : List (List V) → α), fRows l k = k l
  | [], k => rfl
  | c :: cs, k => by
    show (fL0 c fun c => fRows cs fun cs => k (c :: cs)) = _
    simp only [fL0_eq, fRows_eq cs]
noncomputable def fV {α : Type} (v : V) (k : V → α) : α :=
  match v with
  | .tup cs => fL1 cs fun cs => k (.tup cs)
  | .sl sz rows => fRows rows fun rows => k (.sl sz rows)
  | v => fV1 v k
theorem fV_eq {α : Type} (v : V) (k : V → α) : fV v k = k v := by
  cases v <;> simp only [fV, fV1_eq, fL1_eq, fRows_eq]
noncomputable def fEs {α : Type} (l : List (V × V)) : (List (V × V) → α) → α := List.rec (fun k => k []) (fun c _ ih k => fV1 c.1 fun a => fV1 c.2 fun b => ih fun cs => k ((a, b) :: cs)) l
theorem fEs_eq {α : Type} : ∀ (l : List (V × V)) (k : List (V × V) → α), fEs l k = k l
  | [], k => rfl
  | (a, b) :: cs, k => by
    show (fV1 a fun a => fV1 b fun b => fEs cs fun cs => k ((a, b) :: cs)) = _
    simp only [fV1_eq, fEs_eq cs]
noncomputable def fObj {α : Type} (o : AObj) (k : AObj → α) : α :=
  match o with
  | .box T cs => fL0 cs fun cs => k (.box T cs)
  | .arr T sz rows fr => fRows rows fun rows => fBool fr fun fr => k (.arr T sz rows fr)
  | .que T sz rows => fRows rows fun rows => k (.que T sz rows)
  | .map es => fEs es fun es => k (.map es)
  | o => k o
theorem fObj_eq {α : Type} (o : AObj) (k : AObj → α) : fObj o k = k o := by
  cases o <;> simp only [fObj, fL0_eq, fRows_eq, fEs_eq, fBool_eq]
noncomputable def fH {α : Type} (l : List AObj) : (List AObj → α) → α := List.rec (fun k => k []) (fun c _ ih k => fObj c fun c => ih fun cs => k (c :: cs)) l
theorem fH_eq {α : Type} : ∀ (l : List AObj) (k : List AObj → α), fH l k = k l
  | [], k => rfl
  | c :: cs, k => by
    show (fObj c fun c => fH cs fun cs => k (c :: cs)) = _
    simp only [fObj_eq, fH_eq cs]
/-! ### slots, as a tree -/
inductive Tr where
  | e
  | lf (v : V)
  | nd (l r : Tr)
noncomputable def Tr.get (t : Tr) : Nat → Option V := Tr.rec (fun _ => none) (fun v n => Nat.rec (some v) (fun _ _ => none) n) (fun _ _ gl gr n => Nat.rec (gl (n / 2)) (fun _ _ => gr (n / 2)) (n % 2)) t
noncomputable def Tr.set {α : Type} (t : Tr) : Nat → V → (Tr → α) → α :=
  Tr.rec (fun _ _ k => k .e) (fun w n v k => Nat.rec (k (.lf v)) (fun _ _ => k (.lf w)) n) (fun l r sl sr n v k => Nat.rec (sl (n / 2) v fun l => k (.nd l r)) (fun _ _ => sr (n / 2) v fun r => k (.nd l r)) (n % 2)) t
theorem get_e (n : Nat) : Tr.get .e n = none := rfl
theorem get_lf (v : V) (n : Nat) : Tr.get (.lf v) n = if n = 0 then some v else none := by cases n <;> rfl
theorem get_nd (l r : Tr) (n : Nat) : Tr.get (.nd l r) n = if n % 2 = 0 then l.get (n / 2) else r.get (n / 2) := by
  show (Nat.rec (l.get (n / 2)) (fun _ _ => r.get (n / 2)) (n % 2) : Option V) = _
  rcases Nat.mod_two_eq_zero_or_one n with h | h <;> rw [h] <;> rfl
theorem set_spec {α : Type} : ∀ (t : Tr) (n : Nat) (v : V), ∃ t', (∀ k : Tr → α, t.set n v k = k t') ∧ ∀ i, t'.get i = if i = n ∧ (t.get n).isSome = true then some v else t.get i
  | .e, n, v => ⟨.e, fun k => rfl, fun i => by simp [get_e]⟩
  | .lf w, n, v => by
    cases n with
    | zero => exact ⟨.lf v, fun k => rfl, fun i => by simp only [get_lf]; by_cases h : i = 0 <;> simp [h]⟩
    | succ n => exact ⟨.lf w, fun k => rfl, fun i => by simp only [get_lf]; simp⟩
  | .nd l r, n, v => by
    obtain ⟨l', hl, gl⟩ := set_spec (α := α) l (n / 2) v
    obtain ⟨r', hr, gr⟩ := set_spec (α := α) r (n / 2) v
    rcases Nat.mod_two_eq_zero_or_one n with h | h
    · refine ⟨.nd l' r, fun k => ?_, fun i => ?_⟩
      · show (Nat.rec (l.set (n / 2) v fun l => k (.nd l r)) (fun _ _ => r.set (n / 2) v fun r => k (.nd l r)) (n % 2) : α) = _
        rw [h]; exact hl _
      · simp only [get_nd, gl, h, if_true]
        by_cases hi : i % 2 = 0
        · have : i / 2 = n / 2 ↔ i = n := by omega
          simp [hi, this]
        · have : i ≠ n := by omega
          simp [hi, this]
    · refine ⟨.nd l r', fun k => ?_, fun i => ?_⟩
      · show (Nat.rec (l.set (n / 2) v fun l => k (.nd l r)) (fun _ _ => r.set (n / 2) v fun r => k (.nd l r)) (n % 2) : α) = _
        rw [h]; exact hr _
      · simp only [get_nd, gr, h]
        by_cases hi : i % 2 = 0
        · have : i ≠ n := by omega
          simp [hi, this]
        · have : i / 2 = n / 2 ↔ i = n := by omega
          simp [hi, this]
def Rep (tr : Tr) (t : List V) : Prop := ∀ i, tr.get i = t[i]?
theorem Rep.set {α : Type} {tr : Tr} {t : List V} (h : Rep tr t) (d : Nat) (v : V) : ∃ tr', (∀ k : Tr → α, tr.set d v k = k tr') ∧ Rep tr' (t.set d v) := by
  obtain ⟨tr', h1, h2⟩ := set_spec (α := α) tr d v
  refine ⟨tr', h1, fun i => ?_⟩
  rw [h2, h d, h i, List.getElem?_set]
  by_cases hd : d = i
  · subst hd
    by_cases hl : d < t.length <;> simp [hl]
  · simp [hd, Ne.symm hd]
/-- A tree of n slots with nothing in them. -/
noncomputable def mkTr (n : Nat) (d : Nat) : Nat → Nat → Tr := Nat.rec (fun _ b => Nat.rec .e (fun _ _ => .lf .undef) (n - b)) (fun _ ih s b => .nd (ih (2 * s) b) (ih (2 * s) (b + s))) d
theorem mkTr_get (n : Nat) : ∀ (d s b i : Nat), (mkTr n d s b).get i = if i < 2 ^ d ∧ b + i * s < n then some .undef else none
  | 0, s, b, i => by
    show Tr.get (Nat.rec .e (fun _ _ => .lf .undef) (n - b)) i = _
    rcases hk : n - b with _ | k
    · show Tr.get .e i = _
      simp only [get_e]
      by_cases hi : i = 0
      · subst hi; simp; omega
      · simp [hi]
    · show Tr.get (.lf .undef) i = _
      simp only [get_lf]
      by_cases hi : i = 0
      · subst hi; simp; omega
      · simp [hi]
  | d + 1, s, b, i => by
    show Tr.get (.nd (mkTr n d (2 * s) b) (mkTr n d (2 * s) (b + s))) i = _
    rw [get_nd, mkTr_get n d, mkTr_get n d, Nat.pow_succ]
    rcases Nat.mod_two_eq_zero_or_one i with h | h
    · rw [if_pos h]
      have e : b + i / 2 * (2 * s) = b + i * s := by
        have : i = 2 * (i / 2) := by omega
        conv => rhs; rw [this]
        rw [Nat.mul_comm 2 s, ← Nat.mul_assoc, Nat.mul_right_comm, Nat.mul_comm (i / 2 * 2)]
        rw [Nat.mul_comm (i / 2) 2, Nat.mul_comm s]
        
      rw [e]
      have : i / 2 < 2 ^ d ↔ i < 2 ^ d * 2 := by omega
      simp only [this]
    · rw [if_neg (by omega)]
      have e : b + s + i / 2 * (2 * s) = b + i * s := by
        have : i = 2 * (i / 2) + 1 := by omega
        conv => rhs; rw [this]
        rw [Nat.add_mul, Nat.one_mul, Nat.mul_comm 2 (i / 2), Nat.mul_assoc]
        omega
      rw [e]
      have : i / 2 < 2 ^ d ↔ i < 2 ^ d * 2 := by omega
      simp only [this]
theorem mkTr_rep (n : Nat) (h : n ≤ 256) : Rep (mkTr n 8 1 0) (List.replicate n .undef) := fun i => by
  rw [mkTr_get, List.getElem?_replicate]
  by_cases hi : i < n
  · rw [if_pos ⟨by omega, by omega⟩, if_pos hi]
  · rw [if_neg (by omega), if_neg hi]
noncomputable def setL {α : Type} (l : List V) : Nat → Tr → (Tr → α) → α := List.rec (fun _ tr k => k tr) (fun v _ ih i tr k => tr.set i v fun tr => ih (i + 1) tr k) l
theorem setL_rep {α : Type} : ∀ (l : List V) (i : Nat) (tr : Tr) (t : List V), Rep tr t → ∃ tr', (∀ k : Tr → α, setL l i tr k = k tr') ∧ Rep tr' (t.take i ++ (l ++ t.drop (i + l.length)).take (t.length - i))
  | [], i, tr, t, h => ⟨tr, fun k => rfl, by
    have : t.take i ++ ([] ++ t.drop (i + ([] : List V).length)).take (t.length - i) = t := by
      have e : (t.drop i).take (t.length - i) = t.drop i := List.take_of_length_le (by simp)
      simp only [List.nil_append, List.length_nil, Nat.add_zero, e]
      exact List.take_append_drop i t
    rw [this]; exact h⟩
  | v :: l, i, tr, t, h => by
    obtain ⟨tr1, h1, r1⟩ := Rep.set (α := α) h i v
    obtain ⟨tr2, h2, r2⟩ := setL_rep (α := α) l (i + 1) tr1 (t.set i v) r1
    refine ⟨tr2, fun k => ?_, ?_⟩
    · show (tr.set i v fun tr => setL l (i + 1) tr k) = _
      rw [h1]; exact h2 k
    · have : (t.set i v).take (i + 1) ++ (l ++ (t.set i v).drop (i + 1 + l.length)).take ((t.set i v).length - (i + 1)) = t.take i ++ (v :: l ++ t.drop (i + (v :: l).length)).take (t.length - i) := by
        apply List.ext_getElem?
        intro j
        simp only [List.getElem?_append, List.getElem?_take, List.getElem?_drop, List.getElem?_set, List.length_take, List.length_set, List.length_append, List.length_drop, List.length_cons, List.cons_append]
        rcases Nat.lt_trichotomy j i with hj | hj | hj
        · by_cases hl : j < t.length
          · have h1 : j < min (i + 1) t.length := by omega
            have h2 : j < min i t.length := by omega
            simp [h1, h2, show i ≠ j by omega, show j < i + 1 by omega, hj]
          · grind
        · grind
        · grind
      rw [← this]; exact r2
/-- What a function begins with. -/
theorem enter_rep {α : Type} (fn : Func) (args : List V) (h1 : args.length ≤ fn.ntmps) (h2 : fn.ntmps ≤ 256) : ∃ tr, (∀ k : Tr → α, setL args 0 (mkTr fn.ntmps 8 1 0) k = k tr) ∧ Rep tr (enter fn args) := by
  obtain ⟨tr, h3, h4⟩ := setL_rep (α := α) args 0 _ _ (mkTr_rep fn.ntmps h2)
  refine ⟨tr, h3, ?_⟩
  have : (List.replicate fn.ntmps V.undef).take 0 ++ (args ++ (List.replicate fn.ntmps V.undef).drop (0 + args.length)).take ((List.replicate fn.ntmps V.undef).length - 0) = enter fn args := by
    simp only [List.take_zero, List.nil_append, Nat.zero_add, List.drop_replicate, List.length_replicate, Nat.sub_zero, enter]
    rw [List.take_of_length_le (by simp; omega)]
  rw [← this]; exact h4
/-- The slots as a list. -/
noncomputable def toL (tr : Tr) (n : Nat) : List V := (List.range n).map fun i => (tr.get i).getD .undef
theorem toL_rep {tr : Tr} {t : List V} (h : Rep tr t) : toL tr t.length = t := by
  apply List.ext_getElem?
  intro i
  simp only [toL, List.getElem?_map]
  by_cases hi : i < t.length
  · rw [List.getElem?_range hi]; simp [h i, hi]
  · simp [hi]
end Go.Ab
namespace Go.Ab
open Go Go.RowKit
set_option linter.unusedVariables false
/-! ### operations, run -/
abbrev R : Type := Option (Option V × Option (List AObj))
noncomputable def resV1 (v : Option V) : R :=
  match v with
  | some v => fV v fun v => some (some v, none)
  | none => none
def resM1 (v : Option V) : R :=
  match v with
  | some v => some (some v, none)
  | none => none
noncomputable def resH1 (o : Option (V × List AObj)) : R :=
  match o with
  | some (v, h) => fV v fun v => fH h fun h => some (some v, some h)
  | none => none
noncomputable def resE1 (o : Option (List AObj)) : R :=
  match o with
  | some h => fH h fun h => some (none, some h)
  | none => none
theorem resV1_eq {v : Option V} {r : Option V} {oh : Option (List AObj)} (h : resV1 v = some (r, oh)) : ∃ x, v = some x ∧ r = some x ∧ oh = none := by
  cases v with
  | none => cases h
  | some x => simp only [resV1, fV_eq, Option.some.injEq, Prod.mk.injEq] at h; exact ⟨x, rfl, h.1.symm, h.2.symm⟩
theorem resM1_eq {v : Option V} {r : Option V} {oh : Option (List AObj)} (h : resM1 v = some (r, oh)) : ∃ x, v = some x ∧ r = some x ∧ oh = none := by
  cases v with
  | none => cases h
  | some x => simp only [resM1, Option.some.injEq, Prod.mk.injEq] at h; exact ⟨x, rfl, h.1.symm, h.2.symm⟩
theorem resH1_eq {o : Option (V × List AObj)} {r : Option V} {oh : Option (List AObj)} (h : resH1 o = some (r, oh)) : ∃ x h', o = some (x, h') ∧ r = some x ∧ oh = some h' := by
  cases o with
  | none => cases h
  | some x => obtain ⟨x, h'⟩ := x; simp only [resH1, fV_eq, fH_eq, Option.some.injEq, Prod.mk.injEq] at h; exact ⟨x, h', rfl, h.1.symm, h.2.symm⟩
theorem resE1_eq {o : Option (List AObj)} {r : Option V} {oh : Option (List AObj)} (h : resE1 o = some (r, oh)) : ∃ h', o = some h' ∧ r = none ∧ oh = some h' := by
  cases o with
  | none => cases h
  | some x => simp only [resE1, fH_eq, Option.some.injEq, Prod.mk.injEq] at h; exact ⟨x, rfl, h.1.symm, h.2.symm⟩
section
variable {P : Program} (F : Facts P) (e : Operand → Option V) (h : List AObj)
noncomputable def evsG (l : List Operand) : Option (List V) := List.rec (some []) (fun x _ ih => match e x, ih with
  | some v, some vs => some (v :: vs)
  | _, _ => none) l
noncomputable def evpG (l : List (Nat × Operand)) : Option (List (Nat × V)) := List.rec (some []) (fun x _ ih => match e x.2, ih with
  | some v, some vs => some ((x.1, v) :: vs)
  | _, _ => none) l
def optG : Option Operand → Option (Option V)
  | none => some none
  | some x => match e x with
    | some v => some (some v)
    | none => none
def g1 (f : V → R) (x : Operand) : R :=
  match e x with
  | some v => f v
  | none => none
def g2 (f : V → V → R) (x y : Operand) : R :=
  match e x, e y with
  | some v, some u => f v u
  | _, _ => none
def gPick (c a b : Operand) : R :=
  match e c with
  | some (.bool true) => (match e b with
    | some _ => resM1 (e a)
    | none => none)
  | some (.bool false) => (match e a with
    | some _ => resM1 (e b)
    | none => none)
  | _ => none
noncomputable def gBox (T : TypeId) (v : V) : R :=
  match flat h v with
  | some cs => resH1 (some (.ptr h.length 0, h ++ [.box T cs]))
  | none => none
noncomputable def gAlloc (T : TypeId) : R :=
  match zeroV P T with
  | some cs => resH1 (some (.ptr h.length 0, h ++ [.box T cs]))
  | none => none
noncomputable def gBuild (T : TypeId) (ps : Array (Nat × Operand)) : R :=
  match evpG e ps.toList with
  | some vs => resV1 (buildV P h T vs)
  | none => none
noncomputable def gLit (T n : Nat) (ps : Array (Nat × Operand)) : R :=
  match evpG e ps.toList with
  | some vs => resV1 (litV P h T n vs)
  | none => none
def gNil (v : V) : R :=
  match solidV h v with
  | true => some (some v, none)
  | false => none
noncomputable def gUn (u : UnOp) (x : Operand) : R :=
  match u, e x with
  | .not, some (.bool b) => resV1 (some (.bool (!b)))
  | .neg, some (.int k n) => resV1 (some (.int k (k.wrap (0 - n))))
  | _, _ => none
noncomputable def gFunc (f : Fn) (fs cs : Array Operand) : R :=
  match f with
  | .func f => (match evsG e fs.toList, evsG e cs.toList with
    | some a, some b => some (some (.fn f a b), none)
    | _, _ => none)
  | _ => none
noncomputable def gMake (T : TypeId) (n c : Operand) : R :=
  match e n, e c with
  | some (.int .i64 k), some (.int .i64 k') => if k = k' then resH1 (makeV P h T (.int .i64 k)) else none
  | _, _ => none
noncomputable def gSlice (T : TypeId) (x : Operand) (lo hi mx : Option Operand) : R :=
  match mx with
  | some _ => none
  | none => (match e x, optG e lo, optG e hi with
    | some v, some l, some u => resV1 (sliceD P h T v l u)
    | _, _, _ => none)
def gExt (x : Operand) (i : Nat) : R :=
  match e x with
  | some (.tup cs) => resM1 cs[i]?
  | _ => none
def gIface (T : TypeId) (v : V) : R :=
  match P.underlying T with
  | some (.struct _) => some (some (.iface T v), none)
  | _ => none
noncomputable def gMap (r : Option Operand) : R :=
  match r with
  | none => resH1 (some (.map h.length, h ++ [.map []]))
  | some _ => none
noncomputable def gUpd (T : TypeId) (m k x : Operand) : R :=
  match e m, e k, e x with
  | some mv, some kv, some v => resE1 (updateH F h T mv kv v)
  | _, _, _ => none
noncomputable def gMax (a b : V) : R :=
  match a, b with
  | .int k a, .int k' b => resV1 (some (.int k (if b > a then b else a)))
  | _, _ => none
noncomputable def gMin (a b : V) : R :=
  match a, b with
  | .int k a, .int k' b => resV1 (some (.int k (if b < a then b else a)))
  | _, _ => none
noncomputable def gApp (T T' : TypeId) (v u : V) : R := if T = T' then resH1 (appendD P h T v u) else none
noncomputable def gBuiltin (b : Builtin) (args : List Operand) (ts : List TypeId) : R :=
  match b, args, ts with
  | .len, [x], [T] => g1 e (fun v => resV1 (lenV P h T v)) x
  | .append, [x, y], [T, T'] => g2 e (gApp (P := P) h T T') x y
  | .max, [x, y], _ => g2 e gMax x y
  | .min, [x, y], _ => g2 e gMin x y
  | _, _, _ => none
noncomputable def gCall (c : Call) : R :=
  match c with
  | ⟨.builtin b, args, ts⟩ => gBuiltin (P := P) e h b args.toList ts.toList
  | _ => none
noncomputable def opG (op : Op) : R :=
  match op with
  | .move x => resM1 (e x)
  | .assign x => resM1 (e x)
  | .pick c a b => gPick e c a b
  | .alloc T => gAlloc (P := P) h T
  | .box T x => g1 e (gBox h T) x
  | .build T ps => gBuild (P := P) e h T ps
  | .buildSlice T n ps => gLit (P := P) e h T n ps
  | .load T x => g1 e (fun v => resV1 (loadV P h T v)) x
  | .store T p x => g2 e (fun p v => resE1 (storeH P h T p v)) p x
  | .nilCheck x => g1 e (gNil h) x
  | .binOp b T x y _ => g2 e (fun v u => resV1 (binN F b T v u)) x y
  | .unOp u _ x => gUn e u x
  | .makeFunc f fs cs => gFunc e f fs cs
  | .makeSlice T n c => gMake (P := P) e h T n c
  | .slice T x lo hi mx => gSlice (P := P) e h T x lo hi mx
  | .fieldAddr T x f => g1 e (fun v => resV1 (fieldV P h T v f)) x
  | .field T x f => g1 e (fun v => resV1 (fieldOfV P T v f)) x
  | .indexAddr T x i => g2 e (fun v k => resV1 (indexAddrV P h T v k)) x i
  | .index T x i => g2 e (fun v k => resV1 (indexOfV P T v k)) x i
  | .extract x i => gExt e x i
  | .makeInterface T x => g1 e (gIface (P := P) T) x
  | .makeMap _ r => gMap h r
  | .insert T m k x => gUpd F e h T m k x
  | .mapUpdate T m k x => gUpd F e h T m k x
  | .lookup T x k ok => g2 e (fun v k => resV1 (lookupV F h T v k ok)) x k
  | .call c => gCall (P := P) e h c
  | _ => none
end
theorem evsG_eq {s : St} {e : Operand → Option V} (hE : ∀ x, e x = ev s x) : ∀ l, evsG e l = evs s l
  | [] => rfl
  | x :: l => by
    show (match e x, evsG e l with
      | some v, some vs => some (v :: vs)
      | _, _ => none) = _
    rw [hE, evsG_eq hE l]; rfl
theorem evpG_eq {s : St} {e : Operand → Option V} (hE : ∀ x, e x = ev s x) : ∀ l, evpG e l = evp s l
  | [] => rfl
  | (i, x) :: l => by
    show (match e x, evpG e l with
      | some v, some vs => some ((i, v) :: vs)
      | _, _ => none) = _
    rw [hE, evpG_eq hE l]; rfl
theorem optG_eq {s : St} {e : Operand → Option V} (hE : ∀ x, e x = ev s x) (o : Option Operand) : optG e o = optV s o := by
  cases o with
  | none => rfl
  | some x => simp only [optG, optV, hE]; cases ev s x <;> rfl
theorem g1_eq {s : St} {e : Operand → Option V} (hE : ∀ x, e x = ev s x) {f : V → R} {x : Operand} {r : Option V × Option (List AObj)} (h : g1 e f x = some r) : ∃ v, ev s x = some v ∧ f v = some r := by
  simp only [g1, hE] at h
  split at h
  · rename_i v hv; exact ⟨v, hv, h⟩
  · cases h
theorem g2_eq {s : St} {e : Operand → Option V} (hE : ∀ x, e x = ev s x) {f : V → V → R} {x y : Operand} {r : Option V × Option (List AObj)} (h : g2 e f x y = some r) : ∃ v u, ev s x = some v ∧ ev s y = some u ∧ f v u = some r := by
  simp only [g2, hE] at h
  split at h
  · rename_i v u hv hu; exact ⟨v, u, hv, hu, h⟩
  · cases h
theorem opG_sound {P : Program} (F : Facts P) {s : St} {e : Operand → Option V} (hE : ∀ x, e x = ev s x) {op : Op} {r : Option V} {oh : Option (List AObj)} (h : opG F e s.h op = some (r, oh)) : opV F s op = some (r, oh.getD s.h) := by
  cases op with
  | move x | assign x =>
    simp only [opG, hE] at h
    obtain ⟨x, h1, rfl, rfl⟩ := resM1_eq h
    simp only [opV, h1, Option.getD_none]
  | pick c a b =>
    simp only [opG, gPick, hE] at h
    simp only [opV]
    split at h
    · rename_i hc
      split at h
      · rename_i hb
        obtain ⟨x, h1, rfl, rfl⟩ := resM1_eq h
        simp only [hc, h1, hb, if_true, Option.getD_none]
      · cases h
    · rename_i hc
      split at h
      · rename_i hb
        obtain ⟨x, h1, rfl, rfl⟩ := resM1_eq h
        simp [hc, h1, hb]
      · cases h
    · cases h
  | alloc T =>
    simp only [opG, gAlloc] at h
    split at h
    · rename_i cs hz
      obtain ⟨x, h', h1, rfl, rfl⟩ := resH1_eq h
      cases h1
      simp only [opV, hz, Option.getD_some]
    · cases h
  | box T x =>
    obtain ⟨v, hv, h⟩ := g1_eq hE h
    simp only [gBox] at h
    split at h
    · rename_i cs hf
      obtain ⟨x, h', h1, rfl, rfl⟩ := resH1_eq h
      cases h1
      simp only [opV, hv, hf, Option.getD_some]
    · cases h
  | build T ps =>
    simp only [opG, gBuild, evpG_eq hE] at h
    split at h
    · rename_i vs hv
      obtain ⟨x, h1, rfl, rfl⟩ := resV1_eq h
      simp only [opV, hv, h1, Option.getD_none]
    · cases h
  | buildSlice T n ps =>
    simp only [opG, gLit, evpG_eq hE] at h
    split at h
    · rename_i vs hv
      obtain ⟨x, h1, rfl, rfl⟩ := resV1_eq h
      simp only [opV, hv, h1, Option.getD_none]
    · cases h
  | load T x =>
    obtain ⟨v, hv, h⟩ := g1_eq hE h
    obtain ⟨x, h1, rfl, rfl⟩ := resV1_eq h
    simp only [opV, hv, h1, Option.getD_none]
  | store T p x =>
    obtain ⟨v, u, hv, hu, h⟩ := g2_eq hE h
    obtain ⟨h', h1, rfl, rfl⟩ := resE1_eq h
    simp only [opV, hv, hu, h1, Option.getD_some]
  | nilCheck x =>
    obtain ⟨v, hv, h⟩ := g1_eq hE h
    simp only [gNil] at h
    split at h
    · rename_i hs
      simp only [Option.some.injEq, Prod.mk.injEq] at h
      obtain ⟨rfl, rfl⟩ := h
      simp only [opV, hv, hs, if_true, Option.getD_none]
    · cases h
  | binOp b T x y yt =>
    obtain ⟨v, u, hv, hu, h⟩ := g2_eq hE h
    obtain ⟨x, h1, rfl, rfl⟩ := resV1_eq h
    simp only [opV, hv, hu, h1, Option.getD_none]
  | unOp u T x =>
    simp only [opG, gUn, hE] at h
    simp only [opV]
    split at h
    · rename_i hx
      obtain ⟨x, h1, rfl, rfl⟩ := resV1_eq h
      cases h1
      simp only [hx, Option.getD_none]
    · rename_i hx
      obtain ⟨x, h1, rfl, rfl⟩ := resV1_eq h
      cases h1
      simp only [hx, Option.getD_none]
    · cases h
  | makeFunc f fs cs =>
    cases f with
    | func f =>
      simp only [opG, gFunc, evsG_eq hE] at h
      split at h
      · rename_i a b ha hb
        simp only [Option.some.injEq, Prod.mk.injEq] at h
        obtain ⟨rfl, rfl⟩ := h
        simp only [opV, ha, hb, Option.getD_none]
      · cases h
    | _ => simp [opG, gFunc] at h
  | makeSlice T n c =>
    simp only [opG, gMake, hE] at h
    simp only [opV]
    split at h
    · rename_i k k' hn hc
      split at h
      · rename_i hk
        obtain ⟨x, h', h1, rfl, rfl⟩ := resH1_eq h
        simp only [hn, hc, hk, if_true]
        rw [← hk, h1]; rfl
      · cases h
    · cases h
  | slice T x lo hi mx =>
    cases mx with
    | some z => simp [opG, gSlice] at h
    | none =>
      simp only [opG, gSlice, hE, optG_eq hE] at h
      simp only [opV]
      split at h
      · rename_i v l u hv hl hu
        obtain ⟨x, h1, rfl, rfl⟩ := resV1_eq h
        simp only [hv, hl, hu, h1, Option.getD_none]
      · cases h
  | fieldAddr T x f =>
    obtain ⟨v, hv, h⟩ := g1_eq hE h
    obtain ⟨x, h1, rfl, rfl⟩ := resV1_eq h
    simp only [opV, hv, h1, Option.getD_none]
  | field T x f =>
    obtain ⟨v, hv, h⟩ := g1_eq hE h
    obtain ⟨x, h1, rfl, rfl⟩ := resV1_eq h
    simp only [opV, hv, h1, Option.getD_none]
  | indexAddr T x i =>
    obtain ⟨v, u, hv, hu, h⟩ := g2_eq hE h
    obtain ⟨x, h1, rfl, rfl⟩ := resV1_eq h
    simp only [opV, hv, hu, h1, Option.getD_none]
  | index T x i =>
    obtain ⟨v, u, hv, hu, h⟩ := g2_eq hE h
    obtain ⟨x, h1, rfl, rfl⟩ := resV1_eq h
    simp only [opV, hv, hu, h1, Option.getD_none]
  | extract x i =>
    simp only [opG, gExt, hE] at h
    split at h
    · rename_i cs hx
      obtain ⟨x, h1, rfl, rfl⟩ := resM1_eq h
      simp only [opV, hx, h1, Option.getD_none]
    · cases h
  | makeInterface T x =>
    obtain ⟨v, hv, h⟩ := g1_eq hE h
    simp only [gIface] at h
    split at h
    · rename_i fs hu
      simp only [Option.some.injEq, Prod.mk.injEq] at h
      obtain ⟨rfl, rfl⟩ := h
      simp only [opV, hv, hu, Option.getD_none]
    · cases h
  | makeMap T r =>
    cases r with
    | some z => simp [opG, gMap] at h
    | none =>
      simp only [opG, gMap] at h
      obtain ⟨x, h', h1, rfl, rfl⟩ := resH1_eq h
      cases h1
      simp only [opV, Option.getD_some]
  | insert T m k x =>
    simp only [opG, gUpd, hE] at h
    split at h
    · rename_i h1 h2 h3
      obtain ⟨h', h4, rfl, rfl⟩ := resE1_eq h
      simp only [opV, h1, h2, h3, h4, Option.getD_some]
    · cases h
  | mapUpdate T m k x =>
    simp only [opG, gUpd, hE] at h
    split at h
    · rename_i h1 h2 h3
      obtain ⟨h', h4, rfl, rfl⟩ := resE1_eq h
      simp only [opV, h1, h2, h3, h4, Option.getD_some]
    · cases h
  | lookup T x k ok =>
    obtain ⟨v, u, hv, hu, h⟩ := g2_eq hE h
    obtain ⟨x, h1, rfl, rfl⟩ := resV1_eq h
    simp only [opV, hv, hu, h1, Option.getD_none]
  | call c =>
    obtain ⟨callee, args, ts⟩ := c
    cases callee with
    | builtin b =>
      simp only [opG, gCall, gBuiltin] at h
      simp only [opV]
      split at h
      · rename_i x T ha ht
        obtain ⟨v, hv, h⟩ := g1_eq hE h
        obtain ⟨x, h1, rfl, rfl⟩ := resV1_eq h
        simp only [hv, h1, Option.getD_none, ha, ht]
      · rename_i x y T T' ha ht
        obtain ⟨v, u, hv, hu, h⟩ := g2_eq hE h
        simp only [gApp] at h
        split at h
        · rename_i hT
          obtain ⟨x, h', h1, rfl, rfl⟩ := resH1_eq h
          simp only [hv, hu, h1, Option.getD_some, ha, ht, if_pos hT]
        · cases h
      · rename_i x y ha
        obtain ⟨v, u, hv, hu, h⟩ := g2_eq hE h
        simp only [gMax] at h
        split at h
        · obtain ⟨x, h1, rfl, rfl⟩ := resV1_eq h
          cases h1
          simp only [hv, hu, Option.getD_none, ha]
        · cases h
      · rename_i x y ha
        obtain ⟨v, u, hv, hu, h⟩ := g2_eq hE h
        simp only [gMin] at h
        split at h
        · obtain ⟨x, h1, rfl, rfl⟩ := resV1_eq h
          cases h1
          simp only [hv, hu, Option.getD_none, ha]
        · cases h
      · cases h
    | _ => simp [opG, gCall] at h
  | _ => simp [opG] at h
end Go.Ab
namespace Go.Ab
open Go Go.RowKit
set_option linter.unusedVariables false
/-! ### results that lead to rows of rows -/
def optL (f : V → Option V) : List V → Option (List V)
  | [] => some []
  | c :: cs => match f c with
    | some x => match optL f cs with
      | some xs => some (x :: xs)
      | none => none
    | none => none
def optR (f : V → Option V) : List (List V) → Option (List (List V))
  | [] => some []
  | r :: rs => match optL f r with
    | some x => match optR f rs with
      | some xs => some (x :: xs)
      | none => none
    | none => none
/-- As data, so many levels down. -/
def convF (h : List AObj) : Nat → V → Option V
  | 0, x => if x.all (fun _ => false) = true then some x else none
  | k + 1, .arr i n => match h[i]? with
    | some (.arr _ sz rows _) => if n = rows.length then (match optR (convF h k) rows with
      | some rows' => some (.sl sz rows')
      | none => none) else none
    | _ => none
  | k + 1, .agg cs => match optL (convF h k) cs with
    | some xs => some (.agg xs)
    | none => none
  | k + 1, .tup cs => match optL (convF h k) cs with
    | some xs => some (.tup xs)
    | none => none
  | _ + 1, x => if x.all (fun _ => false) = true then some x else none
theorem optL_length {f : V → Option V} : ∀ {xs ys : List V}, optL f xs = some ys → ys.length = xs.length
  | [], ys, h => by simp only [optL, Option.some.injEq] at h; subst h; rfl
  | c :: cs, ys, h => by
    simp only [optL] at h
    split at h
    · split at h
      · rename_i xs hx
        simp only [Option.some.injEq] at h; subst h
        simp [optL_length hx]
      · cases h
    · cases h
theorem optL_rel {E E' : Env} {f : V → Option V} (hf : ∀ x d u, Rel E x u → f x = some d → Rel E' d u ∧ d.all (fun _ => false) = true) : ∀ {xs ys : List V} {us : List Value}, RelL E xs us → optL f xs = some ys → RelL E' ys us ∧ V.allL (fun _ => false) ys = true
  | [], ys, us, hx, h => by
    simp only [optL, Option.some.injEq] at h; subst h
    simp only [RelL] at hx ⊢
    exact ⟨hx, by simp only [V.allL]⟩
  | c :: cs, ys, us, hx, h => by
    simp only [optL] at h
    split at h
    · rename_i x h1
      split at h
      · rename_i xs h2
        simp only [Option.some.injEq] at h; subst h
        simp only [RelL] at hx
        obtain ⟨u, us', rfl, hu, hus⟩ := hx
        obtain ⟨h3, h4⟩ := hf _ _ _ hu h1
        obtain ⟨h5, h6⟩ := optL_rel hf hus h2
        exact ⟨by simp only [RelL]; exact ⟨u, us', rfl, h3, h5⟩, by simp only [V.allL, h4, h6, Bool.and_self]⟩
      · cases h
    · cases h
theorem optR_rel {E E' : Env} {f : V → Option V} (hf : ∀ x d u, Rel E x u → f x = some d → Rel E' d u ∧ d.all (fun _ => false) = true) : ∀ {xs ys : List (List V)} {us : List Value}, RelL E xs.flatten us → optR f xs = some ys →
    RelL E' ys.flatten us ∧ V.allL (fun _ => false) ys.flatten = true ∧ ys.length = xs.length ∧ ∀ sz, (∀ r ∈ xs, r.length = sz) → ∀ r ∈ ys, r.length = sz
  | [], ys, us, hx, h => by
    simp only [optR, Option.some.injEq] at h; subst h
    simp only [List.flatten_nil, RelL] at hx ⊢
    exact ⟨hx, by simp only [V.allL], by simp, fun _ _ r hr => by simp at hr⟩
  | r :: rs, ys, us, hx, h => by
    simp only [optR] at h
    split at h
    · rename_i x h1
      split at h
      · rename_i xs h2
        simp only [Option.some.injEq] at h; subst h
        simp only [List.flatten_cons] at hx
        obtain ⟨a, b, rfl, ha, hb⟩ := RelL.split hx
        obtain ⟨h3, h4⟩ := optL_rel hf ha h1
        obtain ⟨h5, h6, h7, h8⟩ := optR_rel hf hb h2
        refine ⟨by simp only [List.flatten_cons]; exact h3.append h5, by simp only [List.flatten_cons, V.allL_append, h4, h6, Bool.and_self], by simp [h7], fun sz hsz y hy => ?_⟩
        rcases List.mem_cons.1 hy with rfl | hy
        · rw [optL_length h1]; exact hsz r (by simp)
        · exact h8 sz (fun z hz => hsz z (by simp [hz])) y hy
      · cases h
    · cases h
theorem convF_sound {C : Ctx} {s : St} {m : List Value} {a : Act} {w : World} (S : Sim C s m a w) {bad : Nat → Prop} (hbad : ∀ b, b < w.heap.size → bad b → (env C s.h m w).bad b)
    (hfz : ∀ (i : Nat) T sz rows fr v b, s.h[i]? = some (.arr T sz rows fr) → m[i]? = some v → blk v = some b → ¬ bad b) : ∀ (k : Nat) (x d : V) (u : Value), Rel (env C s.h m w) x u → convF s.h k x = some d →
    Rel ⟨bad, [], [], w⟩ d u ∧ d.all (fun _ => false) = true := by
  have hle := data_le (E := env C s.h m w) (bad := bad) hbad
  have hlast : ∀ (x d : V) (u : Value), Rel (env C s.h m w) x u → (if x.all (fun _ => false) = true then some x else none) = some d → Rel ⟨bad, [], [], w⟩ d u ∧ d.all (fun _ => false) = true := by
    intro x d u hx h
    split at h
    · rename_i ha
      simp only [Option.some.injEq] at h; subst h
      exact ⟨Rel.mono hle _ _ ha hx, ha⟩
    · cases h
  intro k
  induction k with
  | zero =>
    intro x d u hx h
    exact hlast x d u hx (by simpa only [convF] using h)
  | succ k ih =>
    intro x d u hx h
    cases x with
    | arr i n =>
      simp only [convF] at h
      split at h
      · rename_i T sz rows fr ho
        split at h
        · rename_i hc
          split at h
          · rename_i rows' hr
            simp only [Option.some.injEq] at h; subst h
            obtain ⟨_, _, _, _, us, ho', _, hm, hown, hR, hsz⟩ := cur_arr S hx (by simp [cur, ho, hc])
            rw [ho] at ho'; cases ho'
            obtain ⟨A, c, rfl, hnc, hlim, hA, hpos⟩ := owns_shape hown
            obtain ⟨h3, h4, h5, h6⟩ := optR_rel ih hR hr
            refine ⟨?_, by simp only [V.all, allR_flatten]; exact h4⟩
            simp only [Rel]
            refine ⟨A, c, by rw [h5], ⟨by omega, by omega⟩, ?_⟩
            rcases rows with _ | ⟨r, rs⟩
            · exact .inl (List.eq_nil_of_length_eq_zero (by simpa using h5))
            · obtain ⟨g, rfl⟩ := hpos (by simp)
              refine .inr ⟨_, rfl, hfz i _ _ _ _ _ g ho hm rfl, own_lt' hown rfl, RelRows.chunked (h6 sz hsz) h3 (fun j v hj => ?_)⟩
              have := hown.cells (g := g) rfl j v hj
              simpa using this
          · cases h
        · cases h
      · cases h
    | agg cs =>
      simp only [convF] at h
      split at h
      · rename_i xs h1
        simp only [Option.some.injEq] at h; subst h
        simp only [Rel] at hx ⊢
        obtain ⟨vs, rfl, hR⟩ := hx
        obtain ⟨h3, h4⟩ := optL_rel ih hR h1
        exact ⟨⟨vs, rfl, h3⟩, by simpa only [V.all] using h4⟩
      · cases h
    | tup cs =>
      simp only [convF] at h
      split at h
      · rename_i xs h1
        simp only [Option.some.injEq] at h; subst h
        simp only [Rel] at hx ⊢
        obtain ⟨vs, rfl, hR⟩ := hx
        obtain ⟨h3, h4⟩ := optL_rel ih hR h1
        exact ⟨⟨vs, rfl, h3⟩, by simpa only [V.all] using h4⟩
      · cases h
    | _ => exact hlast _ _ _ hx (by simpa only [convF] using h)
theorem Ret_introU {P : Program} {f : FuncId} {fn : Func} {c : Code} {args : List V} {r : V} (hf : P.funcs[f]? = some fn) (hb : fn.body = some c)
    (hT : T P 0 none c ⟨enter fn args, []⟩ (fun x s => (match x with | .normal | .ret => True | _ => False) ∧ ∃ r0, resV P fn s = some r0 ∧ ∃ k, convF s.h k r0 = some r)) : Ret P f args r := by
  intro bad w cargs hbad hR
  refine (callsIn_wide (n := 0)).1 ?_
  refine callsIn_of_wp_marks hf hb trivial ?_
  have hlen := hR.length
  have hle : Env.Le (fun _ => true) ⟨bad, [], [], w⟩ (env ⟨bad, w, w.heap.size, []⟩ [] [] w) :=
    ⟨fun b _ h => by rcases h with h | ⟨i, o, v, h1, _⟩; exact h; simp at h1, fun _ _ _ => rfl, Nat.le_refl _, fun i _ v h => by simp at h, fun i _ h => by simp at h, fun i _ T sz rows h => by simp at h⟩
  have S0 : Sim ⟨bad, w, w.heap.size, []⟩ ⟨enter fn args, []⟩ [] { tmps := cargs ++ Array.replicate (fn.ntmps - cargs.size) undef, defers := [] } w := by
    refine ⟨Below.refl _ _, hbad, rfl, ?_, Marks.nil (Nat.le_refl _) (Nat.le_refl _), fun i o v h => by simp at h, fun i j v u b _ h => by simp at h, fun i v b h => by simp at h⟩
    simp only [enter, Array.toList_append, Array.toList_replicate]
    have : args.length = cargs.size := by simpa using hlen
    rw [this]
    exact (hR.le hle).append (RelL.undefs _)
  have hw := hT ⟨bad, w, w.heap.size, []⟩ (env ⟨bad, w, w.heap.size, []⟩ [] [] w) [] _ w rfl (LeN.refl _) S0
  refine wpIn_mono hw ?_
  rintro e a' w' ⟨s', m', ⟨hx, r0, hres, kk, hconv⟩, S', L'⟩
  have post : LeavesInM Fence.wide 0 P fn a'.tmps (fun e w' => ∃ v_1, e = .returned v_1 ∧ Rel ⟨bad, [], [], w'⟩ r v_1 ∧ Below w.heap.size w w') a'.defers .returning w' := by
    refine leaves_marks (C := ⟨bad, w, w.heap.size, []⟩) (E0 := env ⟨bad, w, w.heap.size, []⟩ [] [] w) (s := s') (m := m') rfl (Nat.le_refl _) (fun w' S' L' => ?_) S' L'
    obtain ⟨v, hv, hrv⟩ := resV_sound S' hres
    have hd := convF_sound S' (bad := bad) (fun b _ h => .inl h) (fun i T sz rows fr v b ho hm hb' hbd => by
      have := (S'.low i v b hm hb').1
      have h2 := hbad b hbd
      simp only at this
      omega) kk _ _ _ hrv hconv
    exact ⟨v, hv, v, rfl, hd.1, S'.below⟩
  cases e with
  | normal => exact post
  | ret => exact post
  | _ => exact hx.elim
end Go.Ab
namespace Go.Ab
open Go Go.RowKit
set_option linter.unusedVariables false
/-! ### arguments, opened -/
def E0 (w : World) : Env := ⟨fun _ => False, [], [], w⟩
theorem cell_lt {w : World} {a : Addr} {v : Value} (h : w.cell? a = some v) : a.block < w.heap.size := by
  apply Decidable.byContradiction
  intro hn
  unfold World.cell? at h
  rw [Array.getElem?_eq_none (by omega)] at h
  simp at h
section
variable {H : Type} (enc : TypeId × Value → H) (P : Program) (w : World)
/-- What reads as a value of type t is told by e. -/
def Opens (t : TypeId) {α : Type} (e : α → List V) : Prop :=
  ∀ (base : Nat) (spare : Nat → Bool) (held : Bool) (fuel : Nat) (cs : List Value) (x : DataW H × List MemPlace), DataW.trod enc P w base spare held fuel t cs = some x → ∃ y : α, RelL (E0 w) (e y) cs
variable {enc P w}
theorem opens_int {t : TypeId} {k : IntKind} (ht : P.underlying t = some (.int k)) : Opens enc P w t (fun n : Int => [.int k n]) := by
  intro base spare held fuel cs x h
  obtain ⟨n, rfl, _, _⟩ := DataW.trod_int ht h
  exact ⟨n, by simp [RelL, Rel]⟩
theorem opens_bool {t : TypeId} (ht : P.underlying t = some .bool) : Opens enc P w t (fun b : Bool => [.bool b]) := by
  intro base spare held fuel cs x h
  obtain ⟨b, rfl, _⟩ := DataW.trod_bool ht h
  exact ⟨b, by simp [RelL, Rel]⟩
theorem opens_slice {t e : TypeId} {sz : Nat} {α : Type} {f : α → List V} (ht : P.underlying t = some (.slice e)) (hs : P.cellsOf e = sz) (hpos : 0 < sz) (he : Opens enc P w e f) (hl : ∀ y, (f y).length = sz) : Opens enc P w t (fun l : List α => [.sl sz (l.map f)]) := by
  intro base spare held fuel cs x h
  rcases Deep.open_slice ht h with ⟨rfl, _⟩ | ⟨a, len, cap, m, n, D, Pl, rfl, _, hlc, hcm, hm, _, hel⟩
  · exact ⟨[], by simp [RelL, Rel]⟩
  · rw [hs] at hel
    have key : ∀ n k, k + n = len → ∃ l : List α, l.length = n ∧ RelRows (E0 w) a sz (k * sz) (l.map f) ∧ (l = [] ∨ a.block < w.heap.size) := by
      intro n
      induction n with
      | zero => intro k _; exact ⟨[], rfl, by simp [RelRows], .inl rfl⟩
      | succ n ih =>
        intro k hk
        have hkm : k < m := by rw [hm]; split <;> omega
        obtain ⟨cs', h1, h2⟩ := hel k hkm
        obtain ⟨y, hy⟩ := he _ _ _ _ _ _ h2
        obtain ⟨_, hlen, hcell⟩ := World.cells?_some h1
        obtain ⟨l, e1, e2, _⟩ := ih (k + 1) (by omega)
        refine ⟨y :: l, by simp [e1], ?_, .inr ?_⟩
        · simp only [List.map_cons, RelRows]
          refine ⟨hl y, RelCells.of hy (fun j v hj => ?_), by rw [Nat.succ_mul] at e2; exact e2⟩
          have hjl := (List.getElem?_eq_some_iff.1 hj).1
          have := hcell j (by omega)
          rw [Deep.add_add] at this
          simpa only [E0, hj] using this
        · have h0 := hcell 0 (by omega)
          have hc0 : cs'[0]? = some cs'[0] := List.getElem?_eq_getElem (by omega)
          rw [hc0] at h0
          have := cell_lt h0
          rwa [add_block, add_block] at this
    obtain ⟨l, e1, e2, e3⟩ := key len 0 (by omega)
    refine ⟨l, ?_⟩
    simp only [RelL, Rel]
    refine ⟨_, [], rfl, ⟨some a, cap, by simp [e1], ⟨by simp [e1]; exact hlc, ?_⟩, ?_⟩, rfl⟩
    · have : cap ≤ 9223372036854775807 := by simpa only [maxLen] using hcm
      simp [e1]; omega
    · rcases e3 with rfl | e3
      · exact .inl rfl
      · exact .inr ⟨a, rfl, by simp [E0], e3, by simpa using e2⟩
/-- A field, and what lies behind it. -/
theorem opens_field {E : Env} {cs : List Value} {xs ys : List V} {off n k : Nat} (hk : off + n = k) (h1 : RelL E ys ((cs.drop off).take n)) (h2 : RelL E xs (cs.drop k)) : RelL E (ys ++ xs) (cs.drop off) := by
  rw [← List.take_append_drop n (cs.drop off), List.drop_drop, hk]
  exact h1.append h2
theorem opens_end {E : Env} {cs : List Value} {n : Nat} (h : cs.length = n) : RelL E [] (cs.drop n) := by
  rw [List.drop_eq_nil_of_le (by omega)]
  simp only [RelL]
end
end Go.Ab
namespace Go.Ab
open Go Go.Proofs
namespace Fac
theorem k3 : kindT Try.prog 3 = some false := by kernel_rfl
theorem s3 : sizeT Try.prog 3 = 1 := by kernel_rfl
theorem c3 : Try.prog.cellsOf 3 = 1 := by kernel_rfl
theorem b3 : Try.prog.bytesOf 3 = 8 := by kernel_rfl
theorem e3 : elemT Try.prog 3 = none := by kernel_rfl
theorem a3 : arrT Try.prog 3 = none := by kernel_rfl
theorem z3 : zeroV Try.prog 3 = some [(.int .i64 0)] := by kernel_rfl
theorem y3 : zero1 Try.prog 3 = some (.int .i64 0) := by kernel_rfl
theorem k4 : kindT Try.prog 4 = some false := by kernel_rfl
theorem s4 : sizeT Try.prog 4 = 1 := by kernel_rfl
theorem c4 : Try.prog.cellsOf 4 = 1 := by kernel_rfl
theorem b4 : Try.prog.bytesOf 4 = 1 := by kernel_rfl
theorem e4 : elemT Try.prog 4 = none := by kernel_rfl
theorem a4 : arrT Try.prog 4 = none := by kernel_rfl
theorem z4 : zeroV Try.prog 4 = some [(.bool false)] := by kernel_rfl
theorem y4 : zero1 Try.prog 4 = some (.bool false) := by kernel_rfl
theorem k22 : kindT Try.prog 22 = some false := by kernel_rfl
theorem s22 : sizeT Try.prog 22 = 1 := by kernel_rfl
theorem c22 : Try.prog.cellsOf 22 = 1 := by kernel_rfl
theorem b22 : Try.prog.bytesOf 22 = 24 := by kernel_rfl
theorem e22 : elemT Try.prog 22 = some (23, 1) := by kernel_rfl
theorem z22 : zeroV Try.prog 22 = some [.nil] := by kernel_rfl
theorem y22 : zero1 Try.prog 22 = some .nil := by kernel_rfl
theorem k23 : kindT Try.prog 23 = some false := by kernel_rfl
theorem s23 : sizeT Try.prog 23 = 1 := by kernel_rfl
theorem c23 : Try.prog.cellsOf 23 = 1 := by kernel_rfl
theorem b23 : Try.prog.bytesOf 23 = 24 := by kernel_rfl
theorem e23 : elemT Try.prog 23 = some (3, 1) := by kernel_rfl
theorem z23 : zeroV Try.prog 23 = some [.nil] := by kernel_rfl
theorem y23 : zero1 Try.prog 23 = some .nil := by kernel_rfl
theorem k24 : kindT Try.prog 24 = some false := by kernel_rfl
theorem s24 : sizeT Try.prog 24 = 1 := by kernel_rfl
theorem c24 : Try.prog.cellsOf 24 = 1 := by kernel_rfl
theorem b24 : Try.prog.bytesOf 24 = 24 := by kernel_rfl
theorem e24 : elemT Try.prog 24 = some (4, 1) := by kernel_rfl
theorem z24 : zeroV Try.prog 24 = some [.nil] := by kernel_rfl
theorem y24 : zero1 Try.prog 24 = some .nil := by kernel_rfl
theorem k25 : kindT Try.prog 25 = some false := by kernel_rfl
theorem s25 : sizeT Try.prog 25 = 1 := by kernel_rfl
theorem c25 : Try.prog.cellsOf 25 = 1 := by kernel_rfl
theorem b25 : Try.prog.bytesOf 25 = 24 := by kernel_rfl
theorem e25 : elemT Try.prog 25 = some (40, 3) := by kernel_rfl
theorem z25 : zeroV Try.prog 25 = some [.nil] := by kernel_rfl
theorem y25 : zero1 Try.prog 25 = some .nil := by kernel_rfl
theorem k26 : kindT Try.prog 26 = some false := by kernel_rfl
theorem s26 : sizeT Try.prog 26 = 1 := by kernel_rfl
theorem c26 : Try.prog.cellsOf 26 = 1 := by kernel_rfl
theorem b26 : Try.prog.bytesOf 26 = 24 := by kernel_rfl
theorem e26 : elemT Try.prog 26 = some (43, 2) := by kernel_rfl
theorem z26 : zeroV Try.prog 26 = some [.nil] := by kernel_rfl
theorem y26 : zero1 Try.prog 26 = some .nil := by kernel_rfl
theorem k28 : kindT Try.prog 28 = some true := by kernel_rfl
theorem s28 : sizeT Try.prog 28 = 6 := by kernel_rfl
theorem c28 : Try.prog.cellsOf 28 = 6 := by kernel_rfl
theorem b28 : Try.prog.bytesOf 28 = 128 := by kernel_rfl
theorem e28 : elemT Try.prog 28 = none := by kernel_rfl
theorem a28 : arrT Try.prog 28 = none := by kernel_rfl
theorem z28 : zeroV Try.prog 28 = some [.nil, (.int .i64 0), .nil, .nil, .nil, .nil] := by kernel_rfl
theorem f28_0 : foff Try.prog 28 0 = some 0 := by kernel_rfl
theorem f28_1 : foff Try.prog 28 1 = some 1 := by kernel_rfl
theorem f28_2 : foff Try.prog 28 2 = some 2 := by kernel_rfl
theorem f28_3 : foff Try.prog 28 3 = some 3 := by kernel_rfl
theorem f28_4 : foff Try.prog 28 4 = some 4 := by kernel_rfl
theorem f28_5 : foff Try.prog 28 5 = some 5 := by kernel_rfl
theorem p28 : placesT Try.prog 28 = some [(0, 1), (1, 1), (2, 1), (3, 1), (4, 1), (5, 1)] := by kernel_rfl
theorem k33 : kindT Try.prog 33 = some false := by kernel_rfl
theorem s33 : sizeT Try.prog 33 = 1 := by kernel_rfl
theorem c33 : Try.prog.cellsOf 33 = 1 := by kernel_rfl
theorem b33 : Try.prog.bytesOf 33 = 8 := by kernel_rfl
theorem e33 : elemT Try.prog 33 = none := by kernel_rfl
theorem a33 : arrT Try.prog 33 = none := by kernel_rfl
theorem z33 : zeroV Try.prog 33 = some [(.int .i64 0)] := by kernel_rfl
theorem y33 : zero1 Try.prog 33 = some (.int .i64 0) := by kernel_rfl
theorem k35 : kindT Try.prog 35 = some true := by kernel_rfl
theorem s35 : sizeT Try.prog 35 = 2 := by kernel_rfl
theorem c35 : Try.prog.cellsOf 35 = 2 := by kernel_rfl
theorem b35 : Try.prog.bytesOf 35 = 16 := by kernel_rfl
theorem e35 : elemT Try.prog 35 = none := by kernel_rfl
theorem a35 : arrT Try.prog 35 = none := by kernel_rfl
theorem z35 : zeroV Try.prog 35 = some [(.int .i64 0), (.int .i64 0)] := by kernel_rfl
theorem f35_0 : foff Try.prog 35 0 = some 0 := by kernel_rfl
theorem f35_1 : foff Try.prog 35 1 = some 1 := by kernel_rfl
theorem p35 : placesT Try.prog 35 = some [(0, 1), (1, 1)] := by kernel_rfl
theorem k36 : kindT Try.prog 36 = some false := by kernel_rfl
theorem s36 : sizeT Try.prog 36 = 1 := by kernel_rfl
theorem c36 : Try.prog.cellsOf 36 = 1 := by kernel_rfl
theorem b36 : Try.prog.bytesOf 36 = 8 := by kernel_rfl
theorem e36 : elemT Try.prog 36 = none := by kernel_rfl
theorem a36 : arrT Try.prog 36 = none := by kernel_rfl
theorem z36 : zeroV Try.prog 36 = some [(.int .i64 0)] := by kernel_rfl
theorem y36 : zero1 Try.prog 36 = some (.int .i64 0) := by kernel_rfl
theorem k40 : kindT Try.prog 40 = some true := by kernel_rfl
theorem s40 : sizeT Try.prog 40 = 3 := by kernel_rfl
theorem c40 : Try.prog.cellsOf 40 = 3 := by kernel_rfl
theorem b40 : Try.prog.bytesOf 40 = 40 := by kernel_rfl
theorem e40 : elemT Try.prog 40 = none := by kernel_rfl
theorem a40 : arrT Try.prog 40 = none := by kernel_rfl
theorem z40 : zeroV Try.prog 40 = some [(.int .i64 0), .nil, (.bool false)] := by kernel_rfl
theorem f40_0 : foff Try.prog 40 0 = some 0 := by kernel_rfl
theorem f40_1 : foff Try.prog 40 1 = some 1 := by kernel_rfl
theorem f40_2 : foff Try.prog 40 2 = some 2 := by kernel_rfl
theorem p40 : placesT Try.prog 40 = some [(0, 1), (1, 1), (2, 1)] := by kernel_rfl
theorem k43 : kindT Try.prog 43 = some true := by kernel_rfl
theorem s43 : sizeT Try.prog 43 = 2 := by kernel_rfl
theorem c43 : Try.prog.cellsOf 43 = 2 := by kernel_rfl
theorem b43 : Try.prog.bytesOf 43 = 16 := by kernel_rfl
theorem e43 : elemT Try.prog 43 = none := by kernel_rfl
theorem a43 : arrT Try.prog 43 = none := by kernel_rfl
theorem z43 : zeroV Try.prog 43 = some [(.int .i64 0), (.int .i64 0)] := by kernel_rfl
theorem f43_0 : foff Try.prog 43 0 = some 0 := by kernel_rfl
theorem f43_1 : foff Try.prog 43 1 = some 1 := by kernel_rfl
theorem p43 : placesT Try.prog 43 = some [(0, 1), (1, 1)] := by kernel_rfl
theorem k57 : kindT Try.prog 57 = some false := by kernel_rfl
theorem s57 : sizeT Try.prog 57 = 1 := by kernel_rfl
theorem c57 : Try.prog.cellsOf 57 = 1 := by kernel_rfl
theorem b57 : Try.prog.bytesOf 57 = 24 := by kernel_rfl
theorem e57 : elemT Try.prog 57 = some (67, 2) := by kernel_rfl
theorem z57 : zeroV Try.prog 57 = some [.nil] := by kernel_rfl
theorem y57 : zero1 Try.prog 57 = some .nil := by kernel_rfl
theorem k67 : kindT Try.prog 67 = some true := by kernel_rfl
theorem s67 : sizeT Try.prog 67 = 2 := by kernel_rfl
theorem c67 : Try.prog.cellsOf 67 = 2 := by kernel_rfl
theorem b67 : Try.prog.bytesOf 67 = 16 := by kernel_rfl
theorem e67 : elemT Try.prog 67 = none := by kernel_rfl
theorem a67 : arrT Try.prog 67 = none := by kernel_rfl
theorem z67 : zeroV Try.prog 67 = some [(.int .i64 0), (.int .i64 0)] := by kernel_rfl
theorem f67_0 : foff Try.prog 67 0 = some 0 := by kernel_rfl
theorem f67_1 : foff Try.prog 67 1 = some 1 := by kernel_rfl
theorem p67 : placesT Try.prog 67 = some [(0, 1), (1, 1)] := by kernel_rfl
theorem k69 : kindT Try.prog 69 = some true := by kernel_rfl
theorem s69 : sizeT Try.prog 69 = 7 := by kernel_rfl
theorem c69 : Try.prog.cellsOf 69 = 7 := by kernel_rfl
theorem b69 : Try.prog.bytesOf 69 = 152 := by kernel_rfl
theorem e69 : elemT Try.prog 69 = none := by kernel_rfl
theorem a69 : arrT Try.prog 69 = none := by kernel_rfl
theorem z69 : zeroV Try.prog 69 = some [.nil, (.int .i64 0), .nil, .nil, .nil, .nil, .nil] := by kernel_rfl
theorem f69_0 : foff Try.prog 69 0 = some 0 := by kernel_rfl
theorem f69_1 : foff Try.prog 69 1 = some 6 := by kernel_rfl
theorem p69 : placesT Try.prog 69 = some [(0, 6), (6, 1)] := by kernel_rfl
theorem k75 : kindT Try.prog 75 = some true := by kernel_rfl
theorem s75 : sizeT Try.prog 75 = 2 := by kernel_rfl
theorem c75 : Try.prog.cellsOf 75 = 2 := by kernel_rfl
theorem b75 : Try.prog.bytesOf 75 = 16 := by kernel_rfl
theorem e75 : elemT Try.prog 75 = none := by kernel_rfl
theorem a75 : arrT Try.prog 75 = some (2, 1) := by kernel_rfl
theorem p75 : placesT Try.prog 75 = some [(0, 1), (1, 1)] := by kernel_rfl
theorem z75 : zeroV Try.prog 75 = some [(.int .i64 0), (.int .i64 0)] := by kernel_rfl
theorem k85 : kindT Try.prog 85 = some true := by kernel_rfl
theorem s85 : sizeT Try.prog 85 = 6 := by kernel_rfl
theorem c85 : Try.prog.cellsOf 85 = 6 := by kernel_rfl
theorem b85 : Try.prog.bytesOf 85 = 48 := by kernel_rfl
theorem e85 : elemT Try.prog 85 = none := by kernel_rfl
theorem a85 : arrT Try.prog 85 = some (6, 1) := by kernel_rfl
theorem p85 : placesT Try.prog 85 = some [(0, 1), (1, 1), (2, 1), (3, 1), (4, 1), (5, 1)] := by kernel_rfl
theorem z85 : zeroV Try.prog 85 = some [(.int .i64 0), (.int .i64 0), (.int .i64 0), (.int .i64 0), (.int .i64 0), (.int .i64 0)] := by kernel_rfl
theorem k87 : kindT Try.prog 87 = some true := by kernel_rfl
theorem s87 : sizeT Try.prog 87 = 8 := by kernel_rfl
theorem c87 : Try.prog.cellsOf 87 = 8 := by kernel_rfl
theorem b87 : Try.prog.bytesOf 87 = 64 := by kernel_rfl
theorem e87 : elemT Try.prog 87 = none := by kernel_rfl
theorem a87 : arrT Try.prog 87 = none := by kernel_rfl
theorem z87 : zeroV Try.prog 87 = some [(.int .i64 0), (.int .i64 0), (.int .i64 0), (.int .i64 0), (.int .i64 0), (.int .i64 0), (.int .i64 0), (.int .i64 0)] := by kernel_rfl
theorem f87_0 : foff Try.prog 87 0 = some 0 := by kernel_rfl
theorem f87_1 : foff Try.prog 87 1 = some 6 := by kernel_rfl
theorem p87 : placesT Try.prog 87 = some [(0, 6), (6, 2)] := by kernel_rfl
theorem k89 : kindT Try.prog 89 = some false := by kernel_rfl
theorem s89 : sizeT Try.prog 89 = 1 := by kernel_rfl
theorem c89 : Try.prog.cellsOf 89 = 1 := by kernel_rfl
theorem b89 : Try.prog.bytesOf 89 = 8 := by kernel_rfl
theorem e89 : elemT Try.prog 89 = none := by kernel_rfl
theorem a89 : arrT Try.prog 89 = none := by kernel_rfl
theorem z89 : zeroV Try.prog 89 = some [.nilptr] := by kernel_rfl
theorem y89 : zero1 Try.prog 89 = some .nilptr := by kernel_rfl
theorem k90 : kindT Try.prog 90 = some false := by kernel_rfl
theorem s90 : sizeT Try.prog 90 = 1 := by kernel_rfl
theorem c90 : Try.prog.cellsOf 90 = 1 := by kernel_rfl
theorem b90 : Try.prog.bytesOf 90 = 24 := by kernel_rfl
theorem e90 : elemT Try.prog 90 = some (85, 6) := by kernel_rfl
theorem z90 : zeroV Try.prog 90 = some [.nil] := by kernel_rfl
theorem y90 : zero1 Try.prog 90 = some .nil := by kernel_rfl
theorem k92 : kindT Try.prog 92 = some true := by kernel_rfl
theorem s92 : sizeT Try.prog 92 = 1 := by kernel_rfl
theorem c92 : Try.prog.cellsOf 92 = 1 := by kernel_rfl
theorem b92 : Try.prog.bytesOf 92 = 24 := by kernel_rfl
theorem e92 : elemT Try.prog 92 = none := by kernel_rfl
theorem a92 : arrT Try.prog 92 = none := by kernel_rfl
theorem z92 : zeroV Try.prog 92 = some [.nil] := by kernel_rfl
theorem f92_0 : foff Try.prog 92 0 = some 0 := by kernel_rfl
theorem p92 : placesT Try.prog 92 = some [(0, 1)] := by kernel_rfl
theorem k105 : kindT Try.prog 105 = some true := by kernel_rfl
theorem s105 : sizeT Try.prog 105 = 5 := by kernel_rfl
theorem c105 : Try.prog.cellsOf 105 = 5 := by kernel_rfl
theorem b105 : Try.prog.bytesOf 105 = 40 := by kernel_rfl
theorem e105 : elemT Try.prog 105 = none := by kernel_rfl
theorem a105 : arrT Try.prog 105 = some (5, 1) := by kernel_rfl
theorem p105 : placesT Try.prog 105 = some [(0, 1), (1, 1), (2, 1), (3, 1), (4, 1)] := by kernel_rfl
theorem z105 : zeroV Try.prog 105 = some [.nilfn, .nilfn, .nilfn, .nilfn, .nilfn] := by kernel_rfl
theorem k114 : kindT Try.prog 114 = some true := by kernel_rfl
theorem s114 : sizeT Try.prog 114 = 1 := by kernel_rfl
theorem c114 : Try.prog.cellsOf 114 = 1 := by kernel_rfl
theorem b114 : Try.prog.bytesOf 114 = 8 := by kernel_rfl
theorem e114 : elemT Try.prog 114 = none := by kernel_rfl
theorem a114 : arrT Try.prog 114 = none := by kernel_rfl
theorem z114 : zeroV Try.prog 114 = some [(.int .i64 0)] := by kernel_rfl
theorem f114_0 : foff Try.prog 114 0 = some 0 := by kernel_rfl
theorem p114 : placesT Try.prog 114 = some [(0, 1)] := by kernel_rfl
attribute [go_sem] k3 s3 c3 b3 e3 a3 z3 y3 k4 s4 c4 b4 e4 a4 z4 y4 k22 s22 c22 b22 e22 z22 y22 k23 s23 c23 b23 e23 z23 y23 k24 s24 c24 b24 e24 z24 y24 k25 s25 c25 b25 e25 z25 y25 k26 s26 c26 b26 e26 z26 y26 k28 s28 c28 b28 e28 a28 z28 f28_0 f28_1 f28_2 f28_3 f28_4 f28_5 p28 k33 s33 c33 b33 e33 a33 z33 y33 k35 s35 c35 b35 e35 a35 z35 f35_0 f35_1 p35 k36 s36 c36 b36 e36 a36 z36 y36 k40 s40 c40 b40 e40 a40 z40 f40_0 f40_1 f40_2 p40 k43 s43 c43 b43 e43 a43 z43 f43_0 f43_1 p43 k57 s57 c57 b57 e57 z57 y57 k67 s67 c67 b67 e67 a67 z67 f67_0 f67_1 p67 k69 s69 c69 b69 e69 a69 z69 f69_0 f69_1 p69 k75 s75 c75 b75 e75 a75 p75 z75 k85 s85 c85 b85 e85 a85 p85 z85 k87 s87 c87 b87 e87 a87 z87 f87_0 f87_1 p87 k89 s89 c89 b89 e89 a89 z89 y89 k90 s90 c90 b90 e90 z90 y90 k92 s92 c92 b92 e92 a92 z92 f92_0 p92 k105 s105 c105 b105 e105 a105 p105 z105 k114 s114 c114 b114 e114 a114 z114 f114_0 p114
end Fac
end Go.Ab
namespace Go.Ab
open Go Go.RowKit Go.Proofs
set_option linter.unusedVariables false
theorem se35 : EqInts Try.prog 35 2 := .of (by kernel_rfl) (by kernel_rfl) (by kernel_rfl) (by kernel_rfl) (by kernel_rfl) (by kernel_rfl)
theorem se67 : EqInts Try.prog 67 2 := .of (by kernel_rfl) (by kernel_rfl) (by kernel_rfl) (by kernel_rfl) (by kernel_rfl) (by kernel_rfl)
theorem se85 : EqInts Try.prog 85 6 := .ofArr (E := 3) (by kernel_rfl) (by kernel_rfl) (by kernel_rfl) (by kernel_rfl) (by kernel_rfl)
def eqk (T : TypeId) : Option (List IntKind) := if T = 35 ∨ T = 67 then some [.i64, .i64] else if T = 85 then some [.i64, .i64, .i64, .i64, .i64, .i64] else none
theorem eqk_ok {T : TypeId} {ks : List IntKind} (h : eqk T = some ks) : EqInts Try.prog T ks.length ∧ ks = List.replicate ks.length .i64 := by
  unfold eqk at h
  split at h
  · rename_i hT
    simp only [Option.some.injEq] at h; subst h
    rcases hT with rfl | rfl
    · exact ⟨se35, rfl⟩
    · exact ⟨se67, rfl⟩
  · split at h
    · rename_i hT
      simp only [Option.some.injEq] at h; subst h; subst hT
      exact ⟨se85, rfl⟩
    · cases h
def F : Facts Try.prog where
  eqK := eqk
  eq_ok T ks h xa xb x y w ha hb := by
    obtain ⟨h1, h2⟩ := eqk_ok h
    have := (h1.ops xa xb x y w ha hb).1
    rwa [← h2] at this
  neq_ok T ks h xa xb x y w ha hb := by
    obtain ⟨h1, h2⟩ := eqk_ok h
    have := (h1.ops xa xb x y w ha hb).2
    rwa [← h2] at this
  mixed := by kernel_rfl
  equal_ok T ks h xa xb w ha hb := by
    obtain ⟨h1, h2⟩ := eqk_ok h
    have := h1.eq xa xb w ha hb
    rwa [← h2] at this
  check_ok T ks h xa e w ha := by
    obtain ⟨h1, h2⟩ := eqk_ok h
    have := h1.chk xa e w ha
    rwa [← h2] at this
  wide_ok T ks h := (eqk_ok h).1.wide
theorem F_eqK (T : Nat) : F.eqK T = if T = 35 ∨ T = 67 then some [.i64, .i64] else if T = 85 then some [.i64, .i64, .i64, .i64, .i64, .i64] else none := rfl
end Go.Ab
namespace Go.Ab
open Go Go.RowKit
set_option linter.unusedVariables false
/-! ### towns, as plain data; how they are handed in -/
structure House where
  lot : Int
  wishes : List Int
  school : Bool
structure Town where
  walk : List (List Int)
  reach : Int
  schools : List Int
  gone : List Bool
  houses : List House
  kin : List (Int × Int)
def rI (l : List Int) : List (List V) := l.map fun n => [.int .i64 n]
def rB (l : List Bool) : List (List V) := l.map fun b => [.bool b]
def rL (l : List (List Int)) : List (List V) := l.map fun r => [.sl 1 (rI r)]
def rH (l : List House) : List (List V) := l.map fun h => [.int .i64 h.lot, .sl 1 (rI h.wishes), .bool h.school]
def rP (l : List (Int × Int)) : List (List V) := l.map fun p => [.int .i64 p.1, .int .i64 p.2]
def cT (t : Town) : List V := [.sl 1 (rL t.walk), .int .i64 t.reach, .sl 1 (rI t.schools), .sl 1 (rB t.gone), .sl 3 (rH t.houses), .sl 2 (rP t.kin)]
theorem rI_length (l : List Int) : (rI l).length = l.length := by simp [rI]
theorem rB_length (l : List Bool) : (rB l).length = l.length := by simp [rB]
theorem rL_length (l : List (List Int)) : (rL l).length = l.length := by simp [rL]
theorem rH_length (l : List House) : (rH l).length = l.length := by simp [rH]
theorem rP_length (l : List (Int × Int)) : (rP l).length = l.length := by simp [rP]
theorem rI_get {l : List Int} {k : Nat} (h : k < l.length) : (rI l)[k]? = some [.int .i64 l[k]] := by simp [rI, h]
theorem rB_get {l : List Bool} {k : Nat} (h : k < l.length) : (rB l)[k]? = some [.bool l[k]] := by simp [rB, h]
theorem rL_get {l : List (List Int)} {k : Nat} (h : k < l.length) : (rL l)[k]? = some [.sl 1 (rI l[k])] := by simp [rL, h]
theorem rH_get {l : List House} {k : Nat} (h : k < l.length) : (rH l)[k]? = some [.int .i64 l[k].lot, .sl 1 (rI l[k].wishes), .bool l[k].school] := by simp [rH, h]
theorem rP_get {l : List (Int × Int)} {k : Nat} (h : k < l.length) : (rP l)[k]? = some [.int .i64 l[k].1, .int .i64 l[k].2] := by simp [rP, h]
theorem rI_take (l : List Int) (k : Nat) : (rI l).take k = rI (l.take k) := by simp [rI]
theorem rI_all (p : Nat → Bool) (l : List Int) : V.allR p (rI l) = true := by
  induction l with
  | nil => simp [rI, V.allR]
  | cons n l ih => simp only [rI, List.map_cons, V.allR, V.allL, V.all, Bool.true_and]; exact ih
theorem rB_all (p : Nat → Bool) (l : List Bool) : V.allR p (rB l) = true := by
  induction l with
  | nil => simp [rB, V.allR]
  | cons n l ih => simp only [rB, List.map_cons, V.allR, V.allL, V.all, Bool.true_and]; exact ih
theorem rL_all (p : Nat → Bool) (l : List (List Int)) : V.allR p (rL l) = true := by
  induction l with
  | nil => simp [rL, V.allR]
  | cons n l ih => simp only [rL, List.map_cons, V.allR, V.allL, V.all, rI_all, Bool.true_and]; exact ih
theorem rH_all (p : Nat → Bool) (l : List House) : V.allR p (rH l) = true := by
  induction l with
  | nil => simp [rH, V.allR]
  | cons n l ih => simp only [rH, List.map_cons, V.allR, V.allL, V.all, rI_all, Bool.true_and]; exact ih
theorem rP_all (p : Nat → Bool) (l : List (Int × Int)) : V.allR p (rP l) = true := by
  induction l with
  | nil => simp [rP, V.allR]
  | cons n l ih => simp only [rP, List.map_cons, V.allR, V.allL, V.all, Bool.true_and]; exact ih
theorem rI_nil : ([] : List (List V)) = rI [] := rfl
/-- What fits. -/
theorem rI_fits (l : List Int) : V.fitsR (rI l) ↔ True := by
  induction l with
  | nil => simp [rI, V.fitsR]
  | cons n l ih => simp only [rI, List.map_cons, V.fitsR, V.fitsL, V.fits, true_and]; exact ih
theorem rB_fits (l : List Bool) : V.fitsR (rB l) ↔ True := by
  induction l with
  | nil => simp [rB, V.fitsR]
  | cons n l ih => simp only [rB, List.map_cons, V.fitsR, V.fitsL, V.fits, true_and]; exact ih
theorem rP_fits (l : List (Int × Int)) : V.fitsR (rP l) ↔ True := by
  induction l with
  | nil => simp [rP, V.fitsR]
  | cons n l ih => simp only [rP, List.map_cons, V.fitsR, V.fitsL, V.fits, true_and]; exact ih
theorem rL_fits (l : List (List Int)) : V.fitsR (rL l) ↔ ∀ r ∈ l, r.length ≤ 9223372036854775807 := by
  induction l with
  | nil => simp [rL, V.fitsR]
  | cons n l ih => simp only [rL, List.map_cons, V.fitsR, V.fitsL, V.fits, rI_fits, rI_length, and_true, List.forall_mem_cons]; rw [← ih]; rfl
theorem rH_fits (l : List House) : V.fitsR (rH l) ↔ ∀ r ∈ l, r.wishes.length ≤ 9223372036854775807 := by
  induction l with
  | nil => simp [rH, V.fitsR]
  | cons n l ih => simp only [rH, List.map_cons, V.fitsR, V.fitsL, V.fits, rI_fits, rI_length, and_true, true_and, List.forall_mem_cons]; rw [← ih]; rfl
/-- The lists of a town fit. -/
structure Town.Fits (t : Town) : Prop where
  walk : t.walk.length ≤ 9223372036854775807
  rows : ∀ r ∈ t.walk, r.length ≤ 9223372036854775807
  schools : t.schools.length ≤ 9223372036854775807
  gone : t.gone.length ≤ 9223372036854775807
  houses : t.houses.length ≤ 9223372036854775807
  wishes : ∀ h ∈ t.houses, h.wishes.length ≤ 9223372036854775807
  kin : t.kin.length ≤ 9223372036854775807
theorem cT_fits (t : Town) : V.fitsL (cT t) ↔ t.Fits := by
  simp only [cT, V.fitsL, V.fits, rI_fits, rB_fits, rP_fits, rL_fits, rH_fits, rI_length, rB_length, rL_length, rH_length, rP_length, and_true, true_and]
  constructor
  · rintro ⟨⟨a, b⟩, c, d, ⟨e, f⟩, g⟩; exact ⟨a, b, c, d, e, f, g⟩
  · rintro ⟨a, b, c, d, e, f, g⟩; exact ⟨⟨a, b⟩, c, d, ⟨e, f⟩, g⟩
theorem cT_eq (t : Town) : cT t = [.sl 1 (rL t.walk), .int .i64 t.reach, .sl 1 (rI t.schools), .sl 1 (rB t.gone), .sl 3 (rH t.houses), .sl 2 (rP t.kin)] := rfl
/-! ### what the document says, in plain terms -/
namespace M
def inr (x lo hi : Int) : Bool := decide (lo ≤ x) && decide (x ≤ hi)
def lot (t : Town) (n : Int) : Bool := inr n 0 (t.walk.length - 1)
def house (t : Town) (n : Int) : Bool := inr n 0 (t.houses.length - 1)
/-- The rank of a number in a list. -/
def pos (l : List Int) (n : Int) : Option Nat := l.findIdx? (· == n)
def rank (t : Town) (h : Nat) (n : Int) : Int :=
  match t.houses[h]? with
  | some x => match pos x.wishes n with
    | some i => i
    | none => if x.lot = n then x.wishes.length else -1
  | none => -1
def plan (t : Town) (p : List Int) : Bool := p.all (lot t) && p.length == t.houses.length
def sum (l : List Int) : Int := l.foldl (· + ·) 0
def most (l : List Int) : Int := l.foldl max 0
def before : List Int → List Int → Bool
  | a :: as', b :: bs => if a = b then before as' bs else decide (a < b)
  | _, _ => false
/-- How far it is from a lot to another one. -/
def dist (t : Town) (a b : Int) : Int := (((t.walk[a.toNat]?).getD [])[b.toNat]?).getD 0
def near (t : Town) (a b : Int) : Bool := decide (dist t a b ≤ t.reach)
theorem dist_get {t : Town} {a b : Int} (ha : a.toNat < t.walk.length) (hb : b.toNat < (t.walk[a.toNat]).length) : dist t a b = (t.walk[a.toNat])[b.toNat] := by simp [dist, ha, hb]
theorem sum_go (l : List Int) (n : Int) : l.foldl (· + ·) n = n + sum l := by
  induction l generalizing n with
  | nil => simp [sum]
  | cons x l ih => simp only [sum, List.foldl_cons]; rw [ih, ih (0 + x)]; omega
theorem sum_nil : sum [] = 0 := rfl
theorem sum_cons (x : Int) (l : List Int) : sum (x :: l) = x + sum l := by simp only [sum, List.foldl_cons]; rw [sum_go]; simp [sum]
theorem sum_append (l m : List Int) : sum (l ++ m) = sum l + sum m := by
  induction l with
  | nil => simp [sum_nil]
  | cons x l ih => rw [List.cons_append, sum_cons, sum_cons, ih]; omega
theorem sum_take {l : List Int} {k : Nat} (h : k < l.length) : sum (l.take (k + 1)) = sum (l.take k) + l[k] := by
  rw [List.take_succ_eq_append_getElem h, sum_append, sum_cons, sum_nil]; omega
theorem sum_bound {l : List Int} {b : Int} (hb : ∀ x ∈ l, -b ≤ x ∧ x ≤ b) : -(b * l.length) ≤ sum l ∧ sum l ≤ b * l.length := by
  induction l with
  | nil => simp [sum_nil]
  | cons x l ih =>
    have h1 := ih (fun y hy => hb y (by simp [hy]))
    have h2 := hb x (by simp)
    rw [sum_cons, List.length_cons]
    have : b * ((l.length + 1 : Nat) : Int) = b * l.length + b := by rw [Int.natCast_add, Int.mul_add]; simp
    omega
theorem most_take {l : List Int} {k : Nat} (h : k < l.length) : most (l.take (k + 1)) = max (most (l.take k)) l[k] := by
  simp only [most]; rw [List.take_succ_eq_append_getElem h, List.foldl_append]; rfl
end M
theorem wrap_len {n : Nat} (h : n ≤ 9223372036854775807) : IntKind.i64.wrap ((n : Int) - 1) = (n : Int) - 1 := wrap_id (by omega) (by omega)
/-! ### what walks simplify with -/
attribute [go_sem] Nat.reducePow Nat.reduceLT Nat.reduceAdd Nat.reduceSub Nat.reduceMul Nat.reduceLeDiff reduceIte Nat.reduceEqDiff Nat.reduceBEq
attribute [go_sem] List.map_cons List.map_nil List.all_cons List.all_nil Bool.and_self Bool.and_true Bool.true_and List.contains_nil List.contains_cons Option.join_some Option.join_none Option.getD_some Option.getD_none Bool.or_false Bool.false_or List.append_toArray List.flatten_cons List.flatten_nil List.append_nil ge_iff_le gt_iff_lt Int.ofNat_lt Int.ofNat_le decide_eq_true_eq decide_true decide_false beq_true beq_false beq_self_eq_true Bool.not_true Bool.not_false Bool.not_not Bool.not_eq_true' Bool.not_eq_false' not_false_iff not_true List.replicate List.range List.range.loop List.size_toArray List.length_cons List.length_nil List.getElem?_toArray List.getElem?_cons_zero List.getElem?_cons_succ List.set_cons_zero List.set_cons_succ List.cons_append List.nil_append List.drop_zero List.drop_succ_cons List.take_succ_cons List.take_zero Nat.zero_le Nat.le_refl Nat.zero_add Nat.add_zero Int.toNat_natCast Int.natCast_nonneg if_true if_false Bool.false_eq_true and_self and_true true_and Option.bind_some Option.some.injEq wrap_succ cT_eq rI_length rB_length rL_length rH_length rP_length rI_take rI_all rB_all rL_all rH_all rP_all
/-! ### what walks say of conditions: rules, as one theorem each -/
theorem BS : (∀ b : Bool, (b == true) = b) ∧ (∀ b : Bool, (b == false) = !b) ∧ (∀ b : Bool, ((!b) = true) = (b = false)) ∧ (∀ b : Bool, ((!b) = false) = (b = true)) ∧ (∀ b : Bool, (!!b) = b) ∧ ((!true) = false) ∧ ((!false) = true) :=
  ⟨by simp, by simp, by simp, by simp, by simp, rfl, rfl⟩
theorem CS : ((∀ b : Bool, (b == true) = b) ∧ (∀ b : Bool, (b == false) = !b) ∧ (∀ (p : Prop) [Decidable p], (decide p = true) = p) ∧ (∀ (p : Prop) [Decidable p], (decide p = false) = ¬p) ∧ (∀ b : Bool, ((!b) = true) = (b = false)) ∧ (∀ b : Bool, ((!b) = false) = (b = true)) ∧ (∀ b : Bool, (¬(b = true)) = (b = false)) ∧ (∀ b : Bool, (¬(b = false)) = (b = true))) ∧
    ((∀ {α : Type} (a b : α), (a ≠ b) = ¬(a = b)) ∧ (∀ m n : Nat, ((m : Int) < (n : Int)) = (m < n)) ∧ (∀ m n : Nat, ((m : Int) ≤ (n : Int)) = (m ≤ n)) ∧ (∀ {α : Type} [BEq α] [LawfulBEq α] (a b : α), ((a == b) = true) = (a = b)) ∧ (∀ {α : Type} [BEq α] [LawfulBEq α] (a b : α), ((a != b) = true) = ¬(a = b)) ∧
      (∀ {α : Type} [BEq α] [LawfulBEq α] (a b : α), ((a == b) = false) = ¬(a = b)) ∧ (∀ {α : Type} [BEq α] [LawfulBEq α] (a b : α), ((a != b) = false) = (a = b))) ∧
    ((∀ a b : Int, (a ≥ b) = (b ≤ a)) ∧ (∀ a b : Int, (a > b) = (b < a)) ∧ (∀ a b : Nat, (a ≥ b) = (b ≤ a)) ∧ (∀ a b : Nat, (a > b) = (b < a)) ∧ ((!true) = false) ∧ ((!false) = true) ∧ (∀ p : Prop, (¬¬p) = p) ∧ (∀ m n : Nat, ((m : Int) = (n : Int)) = (m = n)) ∧ (∀ n : Nat, (0 ≤ (n : Int)) = True)) := by
  refine ⟨⟨?_, ?_, ?_, ?_, ?_, ?_, ?_, ?_⟩, ⟨?_, ?_, ?_, ?_, ?_, ?_, ?_⟩, ?_, ?_, ?_, ?_, rfl, rfl, ?_, ?_, ?_⟩ <;> intros <;> first | rfl | (simp; done) | (simp; omega)
end Go.Ab
namespace Go.Ab
open Go Go.RowKit Go.Proofs
set_option linter.unusedVariables false
section
variable {H : Type} {enc : TypeId × Value → H} {w : World}
theorem opens_ints : Opens enc Try.prog w 23 (fun l : List Int => [.sl 1 (rI l)]) := opens_slice Try.underlying23 (by kernel_rfl) (by omega) (opens_int Try.underlying3) (fun _ => rfl)
theorem opens_bools : Opens enc Try.prog w 24 (fun l : List Bool => [.sl 1 (rB l)]) := opens_slice Try.underlying24 (by kernel_rfl) (by omega) (opens_bool Try.underlying4) (fun _ => rfl)
theorem opens_rows : Opens enc Try.prog w 22 (fun l : List (List Int) => [.sl 1 (rL l)]) := opens_slice Try.underlying22 (by kernel_rfl) (by omega) opens_ints (fun _ => rfl)
theorem opens_house : Opens enc Try.prog w 40 (fun h : House => [.int .i64 h.lot, .sl 1 (rI h.wishes), .bool h.school]) := by
  intro base spare held fuel cs x h
  obtain ⟨xs, m, _, _, hlen, hxl, hf⟩ := DataW.trod_struct Try.underlying40 h
  rcases xs with _ | ⟨x0, _ | ⟨x1, _ | ⟨x2, _ | ⟨x3, xs⟩⟩⟩⟩ <;> simp at hxl
  obtain ⟨y0, h0⟩ := opens_int Try.underlying3 _ _ _ _ _ _ (hf 0 _ rfl)
  change RelL _ _ (List.take (Try.prog.cellsOf 3) (List.drop 0 cs)) at h0
  obtain ⟨y1, h1⟩ := opens_ints _ _ _ _ _ _ (hf 1 _ rfl)
  change RelL _ _ (List.take (Try.prog.cellsOf 23) (List.drop 1 cs)) at h1
  obtain ⟨y2, h2⟩ := opens_bool Try.underlying4 _ _ _ _ _ _ (hf 2 _ rfl)
  change RelL _ _ (List.take (Try.prog.cellsOf 4) (List.drop 2 cs)) at h2
  refine ⟨⟨y0, y1, y2⟩, ?_⟩
  have c0 : Try.prog.cellsOf 3 = 1 := by kernel_rfl
  have c1 : Try.prog.cellsOf 23 = 1 := by kernel_rfl
  have c2 : Try.prog.cellsOf 4 = 1 := by kernel_rfl
  have ct : Try.prog.cellsOf 40 = 3 := by kernel_rfl
  rw [c0] at h0; rw [c1] at h1; rw [c2] at h2; rw [ct] at hlen
  exact opens_field (off := 0) (n := 1) (k := 1) rfl h0 (opens_field (off := 1) (n := 1) (k := 2) rfl h1 (opens_field (off := 2) (n := 1) (k := 3) rfl h2 (opens_end hlen)))
theorem opens_pair : Opens enc Try.prog w 43 (fun h : Int × Int => [.int .i64 h.1, .int .i64 h.2]) := by
  intro base spare held fuel cs x h
  obtain ⟨xs, m, _, _, hlen, hxl, hf⟩ := DataW.trod_struct Try.underlying43 h
  rcases xs with _ | ⟨x0, _ | ⟨x1, _ | ⟨x2, xs⟩⟩⟩ <;> simp at hxl
  obtain ⟨y0, h0⟩ := opens_int Try.underlying3 _ _ _ _ _ _ (hf 0 _ rfl)
  change RelL _ _ (List.take (Try.prog.cellsOf 3) (List.drop 0 cs)) at h0
  obtain ⟨y1, h1⟩ := opens_int Try.underlying3 _ _ _ _ _ _ (hf 1 _ rfl)
  change RelL _ _ (List.take (Try.prog.cellsOf 3) (List.drop 1 cs)) at h1
  refine ⟨⟨y0, y1⟩, ?_⟩
  have c0 : Try.prog.cellsOf 3 = 1 := by kernel_rfl
  have ct : Try.prog.cellsOf 43 = 2 := by kernel_rfl
  rw [c0] at h0 h1; rw [ct] at hlen
  exact opens_field (off := 0) (n := 1) (k := 1) rfl h0 (opens_field (off := 1) (n := 1) (k := 2) rfl h1 (opens_end hlen))
theorem opens_houses : Opens enc Try.prog w 25 (fun l : List House => [.sl 3 (rH l)]) := opens_slice Try.underlying25 (by kernel_rfl) (by omega) opens_house (fun _ => rfl)
theorem opens_kin : Opens enc Try.prog w 26 (fun l : List (Int × Int) => [.sl 2 (rP l)]) := opens_slice Try.underlying26 (by kernel_rfl) (by omega) opens_pair (fun _ => rfl)
theorem opens_town : Opens enc Try.prog w 28 cT := by
  intro base spare held fuel cs x h
  obtain ⟨xs, m, _, _, hlen, hxl, hf⟩ := DataW.trod_struct Try.underlying28 h
  rcases xs with _ | ⟨x0, _ | ⟨x1, _ | ⟨x2, _ | ⟨x3, _ | ⟨x4, _ | ⟨x5, _ | ⟨x6, xs⟩⟩⟩⟩⟩⟩⟩ <;> simp at hxl
  obtain ⟨y0, h0⟩ := opens_rows _ _ _ _ _ _ (hf 0 _ rfl)
  change RelL _ _ (List.take (Try.prog.cellsOf 22) (List.drop 0 cs)) at h0
  obtain ⟨y1, h1⟩ := opens_int Try.underlying3 _ _ _ _ _ _ (hf 1 _ rfl)
  change RelL _ _ (List.take (Try.prog.cellsOf 3) (List.drop 1 cs)) at h1
  obtain ⟨y2, h2⟩ := opens_ints _ _ _ _ _ _ (hf 2 _ rfl)
  change RelL _ _ (List.take (Try.prog.cellsOf 23) (List.drop 2 cs)) at h2
  obtain ⟨y3, h3⟩ := opens_bools _ _ _ _ _ _ (hf 3 _ rfl)
  change RelL _ _ (List.take (Try.prog.cellsOf 24) (List.drop 3 cs)) at h3
  obtain ⟨y4, h4⟩ := opens_houses _ _ _ _ _ _ (hf 4 _ rfl)
  change RelL _ _ (List.take (Try.prog.cellsOf 25) (List.drop 4 cs)) at h4
  obtain ⟨y5, h5⟩ := opens_kin _ _ _ _ _ _ (hf 5 _ rfl)
  change RelL _ _ (List.take (Try.prog.cellsOf 26) (List.drop 5 cs)) at h5
  refine ⟨⟨y0, y1, y2, y3, y4, y5⟩, ?_⟩
  have c0 : Try.prog.cellsOf 22 = 1 := by kernel_rfl
  have c1 : Try.prog.cellsOf 3 = 1 := by kernel_rfl
  have c2 : Try.prog.cellsOf 23 = 1 := by kernel_rfl
  have c3 : Try.prog.cellsOf 24 = 1 := by kernel_rfl
  have c4 : Try.prog.cellsOf 25 = 1 := by kernel_rfl
  have c5 : Try.prog.cellsOf 26 = 1 := by kernel_rfl
  have ct : Try.prog.cellsOf 28 = 6 := by kernel_rfl
  rw [c0] at h0; rw [c1] at h1; rw [c2] at h2; rw [c3] at h3; rw [c4] at h4; rw [c5] at h5; rw [ct] at hlen
  exact opens_field (off := 0) (n := 1) (k := 1) rfl h0 (opens_field (off := 1) (n := 1) (k := 2) rfl h1 (opens_field (off := 2) (n := 1) (k := 3) rfl h2 (opens_field (off := 3) (n := 1) (k := 4) rfl h3 (opens_field (off := 4) (n := 1) (k := 5) rfl h4 (opens_field (off := 5) (n := 1) (k := 6) rfl h5 (opens_end hlen))))))
/-- A town that comes in. -/
theorem town_in {base : Nat} {spare : Nat → Bool} {held : Bool} {v : Value} {d : DataW H} {ps : List MemPlace} (h : DataW.Trod enc Try.prog w base spare held 28 v d ps) : ∃ t : Town, Rel (E0 w) (.agg (cT t)) v := by
  obtain ⟨fuel, h⟩ := h
  obtain ⟨_, _, _, _, hlen, _, _⟩ := DataW.trod_struct Try.underlying28 h
  have ct : Try.prog.cellsOf 28 = 6 := by kernel_rfl
  rw [ct] at hlen
  obtain ⟨t, ht⟩ := opens_town _ _ _ _ _ _ h
  refine ⟨t, ?_⟩
  cases v <;> simp [Value.cells] at hlen ht
  simp only [Rel]
  exact ⟨_, rfl, ht⟩
/-- A list of whole numbers that comes in. -/
theorem ints_in {base : Nat} {spare : Nat → Bool} {held : Bool} {v : Value} {d : DataW H} {ps : List MemPlace} (h : DataW.Trod enc Try.prog w base spare held 23 v d ps) (hv : ∃ a l c, v = .slice a l c) : ∃ l : List Int, Rel (E0 w) (.sl 1 (rI l)) v := by
  obtain ⟨fuel, h⟩ := h
  obtain ⟨l, hl⟩ := opens_ints _ _ _ _ _ _ h
  obtain ⟨a, n, c, rfl⟩ := hv
  simp only [Value.cells, RelL] at hl
  obtain ⟨u, us, e, hr, rfl⟩ := hl
  simp only [List.cons.injEq, and_true] at e
  exact ⟨l, e ▸ hr⟩
end
end Go.Ab
namespace Go.Ab.M
open Go Go.RowKit
set_option linter.unusedVariables false
def hs (t : Town) (i : Nat) : House := (t.houses[i]?).getD ⟨0, [], false⟩
theorem hs_get {t : Town} {i : Nat} (h : i < t.houses.length) : hs t i = t.houses[i] := by simp [hs, h]
def at' (l : List Int) (i : Nat) : Int := (l[i]?).getD 0
theorem at_get {l : List Int} {i : Nat} (h : i < l.length) : at' l i = l[i] := by simp [at', h]
def kn (t : Town) (i : Nat) : Int × Int := (t.kin[i]?).getD (0, 0)
theorem kn_get {t : Town} {i : Nat} (h : i < t.kin.length) : kn t i = t.kin[i] := by simp [kn, h]
def row (t : Town) (i : Nat) : List Int := (t.walk[i]?).getD []
theorem row_get {t : Town} {i : Nat} (h : i < t.walk.length) : row t i = t.walk[i] := by simp [row, h]
theorem dist_row (t : Town) (i k : Nat) : dist t i k = at' (row t i) k := by simp [dist, at', row]
def Cell (t : Town) (i k : Nat) : Prop := inr (dist t i k) 0 1000 = true ∧ ¬ (i = k ∧ dist t i k ≠ 0) ∧ dist t i k = dist t k i
instance (t : Town) (i k : Nat) : Decidable (Cell t i k) := by unfold Cell; infer_instance
def Walks (t : Town) : Prop := (∀ i, i < t.walk.length → (row t i).length = t.walk.length) ∧ (∀ i, i < t.walk.length → ∀ k, k < t.walk.length → Cell t i k) ∧ inr t.walk.length 1 7 = true
instance (t : Town) : Decidable (Walks t) := by unfold Walks; infer_instance
def HouseOk (t : Town) (i : Nat) : Prop := lot t (hs t i).lot = true ∧ (∀ k, k < i → (hs t k).lot ≠ (hs t i).lot) ∧ ∀ k, k < (hs t i).wishes.length → lot t (at' (hs t i).wishes k) = true ∧ ((hs t i).wishes.take k).contains (at' (hs t i).wishes k) = false
instance (t : Town) (i : Nat) : Decidable (HouseOk t i) := by unfold HouseOk; infer_instance
def Houses (t : Town) : Prop := (∀ i, i < t.houses.length → HouseOk t i) ∧ inr t.houses.length 1 6 = true
instance (t : Town) : Decidable (Houses t) := by unfold Houses; infer_instance
def SchoolOk (t : Town) (i : Nat) : Prop := lot t (at' t.schools i) = true ∧ ¬ (0 < i ∧ at' t.schools i ≤ at' t.schools (i - 1))
instance (t : Town) (i : Nat) : Decidable (SchoolOk t i) := by unfold SchoolOk; infer_instance
def KinOk (t : Town) (i : Nat) : Prop := house t (kn t i).1 = true ∧ house t (kn t i).2 = true ∧ (kn t i).1 ≠ (kn t i).2
instance (t : Town) (i : Nat) : Decidable (KinOk t i) := by unfold KinOk; infer_instance
/-- The town is as defined. -/
structure Ok (t : Town) : Prop where
  walks : Walks t
  houses : Houses t
  reach : inr t.reach 0 1000 = true
  gone : t.gone.length = t.walk.length
  kin : t.kin.length ≤ 10
  schools : ∀ i, i < t.schools.length → SchoolOk t i
  kins : ∀ i, i < t.kin.length → KinOk t i
theorem ok_iff (t : Town) : Ok t ↔ Walks t ∧ Houses t ∧ inr t.reach 0 1000 = true ∧ t.gone.length = t.walk.length ∧ t.kin.length ≤ 10 ∧ (∀ i, i < t.schools.length → SchoolOk t i) ∧ (∀ i, i < t.kin.length → KinOk t i) :=
  ⟨fun ⟨a, b, c, d, e, f, g⟩ => ⟨a, b, c, d, e, f, g⟩, fun ⟨a, b, c, d, e, f, g⟩ => ⟨a, b, c, d, e, f, g⟩⟩
instance (t : Town) : Decidable (Ok t) := decidable_of_iff _ (ok_iff t).symm
def taught (t : Town) (n : Int) : Bool := t.schools.any fun s => near t s n
theorem inr_iff {x lo hi : Int} : inr x lo hi = true ↔ lo ≤ x ∧ x ≤ hi := by simp [inr]
theorem lot_iff {t : Town} {n : Int} : lot t n = true ↔ 0 ≤ n ∧ n < t.walk.length := by simp [lot, inr]; omega
theorem house_iff {t : Town} {n : Int} : house t n = true ↔ 0 ≤ n ∧ n < t.houses.length := by simp [house, inr]; omega
theorem Ok.square {t : Town} (h : Ok t) {i : Nat} (hi : i < t.walk.length) : (t.walk[i]).length = t.walk.length := by
  have := h.walks.1 i hi; rwa [row_get hi] at this
theorem Ok.school {t : Town} (h : Ok t) {s : Int} (hs : s ∈ t.schools) : lot t s = true := by
  obtain ⟨i, hi, rfl⟩ := List.mem_iff_getElem.1 hs
  have := (h.schools i hi).1
  rwa [at_get hi] at this
/-! ### what is wrong with a plan -/
def first (n : Nat) (f : Nat → Bool) : Option Nat := (List.range n).find? f
theorem first_some {n k : Nat} {f : Nat → Bool} (h : k < n) (hf : f k = true) (hb : ∀ j, j < k → f j = false) : first n f = some k := by
  unfold first
  rw [List.find?_range_eq_some]
  exact ⟨hf, List.mem_range.2 h, fun j hj => by simp [hb j hj]⟩
theorem first_none {n : Nat} {f : Nat → Bool} (hb : ∀ j, j < n → f j = false) : first n f = none := by
  unfold first
  rw [List.find?_range_eq_none]
  exact fun j hj => by simp [hb j hj]
def shared (p : List Int) (i : Nat) : Bool := (p.take i).contains (at' p i)
def gone (t : Town) (n : Int) : Bool := (t.gone[n.toNat]?).getD false
theorem gone_get {t : Town} {n : Int} (h : n.toNat < t.gone.length) : gone t n = t.gone[n.toNat] := by simp [gone, h]
def unwished (t : Town) (p : List Int) (i : Nat) : Bool := decide (rank t i (at' p i) < 0)
def untaught (t : Town) (p : List Int) (i : Nat) : Bool := (hs t i).school && !taught t (at' p i)
def apart (t : Town) (p : List Int) (k : Nat) : Bool := !near t (at' p (kn t k).1.toNat) (at' p (kn t k).2.toNat)
def fault (t : Town) (p : List Int) : Int × Int :=
  match first p.length (shared p) with
  | some i => (2, i)
  | none => match first p.length (fun i => gone t (at' p i)) with
    | some i => (3, i)
    | none => match first p.length (unwished t p) with
      | some i => (4, i)
      | none => match first p.length (untaught t p) with
        | some i => (5, i)
        | none => match first t.kin.length (apart t p) with
          | some k => (6, k)
          | none => (1, 0)
def allowed (t : Town) (p : List Int) : Bool := (fault t p).1 == 1
theorem plan_iff {t : Town} {p : List Int} : plan t p = true ↔ p.length = t.houses.length ∧ ∀ i, i < p.length → lot t (at' p i) = true := by
  simp only [plan, Bool.and_eq_true, List.all_eq_true, beq_iff_eq]
  constructor
  · rintro ⟨h1, h2⟩
    exact ⟨h2, fun i hi => by rw [at_get hi]; exact h1 _ (List.getElem_mem hi)⟩
  · rintro ⟨h1, h2⟩
    refine ⟨fun x hx => ?_, h1⟩
    obtain ⟨i, hi, rfl⟩ := List.mem_iff_getElem.1 hx
    have := h2 i hi
    rwa [at_get hi] at this
theorem rank_go (l : List Int) (n : Int) (k : Nat) (h : k < l.length) (he : l[k] = n) (hb : ∀ j, j < k → l[j]? ≠ some n) : pos l n = some k := by
  unfold pos
  rw [List.findIdx?_eq_some_iff_getElem]
  refine ⟨h, by simp [he], fun j hj => ?_⟩
  have := hb j hj
  rw [List.getElem?_eq_getElem (by omega)] at this
  simpa using this
theorem rank_no (l : List Int) (n : Int) (hb : ∀ j, j < l.length → l[j]? ≠ some n) : pos l n = none := by
  unfold pos
  rw [List.findIdx?_eq_none_iff]
  intro x hx
  obtain ⟨i, hi, rfl⟩ := List.mem_iff_getElem.1 hx
  have := hb i hi
  rw [List.getElem?_eq_getElem hi] at this
  simpa using this
theorem before_drop {l m : List Int} {k : Nat} (h1 : k < l.length) (h2 : k < m.length) : before (l.drop k) (m.drop k) = if l[k] = m[k] then before (l.drop (k + 1)) (m.drop (k + 1)) else decide (l[k] < m[k]) := by
  rw [List.drop_eq_getElem_cons h1, List.drop_eq_getElem_cons h2, before]
theorem before_end {l m : List Int} {k : Nat} (h : l.length ≤ k ∨ m.length ≤ k) : before (l.drop k) (m.drop k) = false := by
  rcases h with h | h
  · rw [List.drop_eq_nil_of_le h]; unfold before; rfl
  · rw [List.drop_eq_nil_of_le h]; cases l.drop k <;> rfl
theorem rank_at {t : Town} {h k : Nat} {n : Int} (hh : h < t.houses.length) (hk : k < (t.houses[h]).wishes.length) (he : (t.houses[h]).wishes[k] = n) (hb : ∀ j, j < k → (t.houses[h]).wishes[j]? ≠ some n) : rank t h n = k := by
  unfold rank
  rw [List.getElem?_eq_getElem hh]
  simp only [rank_go _ n k hk he hb]
theorem rank_off {t : Town} {h : Nat} {n : Int} (hh : h < t.houses.length) (hb : ∀ j, j < (t.houses[h]).wishes.length → (t.houses[h]).wishes[j]? ≠ some n) : rank t h n = if (t.houses[h]).lot = n then ((t.houses[h]).wishes.length : Int) else -1 := by
  unfold rank
  rw [List.getElem?_eq_getElem hh]
  simp only [rank_no _ n hb]
def ranks (t : Town) (p : List Int) : List Int := (List.range p.length).map fun i => rank t i (at' p i)
theorem ranks_length (t : Town) (p : List Int) : (ranks t p).length = p.length := by simp [ranks]
theorem ranks_take (t : Town) (p : List Int) {k : Nat} (h : k < p.length) : (ranks t p).take (k + 1) = (ranks t p).take k ++ [rank t k p[k]] := by
  rw [List.take_succ_eq_append_getElem (by rw [ranks_length]; exact h)]
  simp [ranks, at_get h]
theorem ranks_all (t : Town) (p : List Int) {k : Nat} (h : p.length ≤ k) : (ranks t p).take k = ranks t p := List.take_of_length_le (by rw [ranks_length]; exact h)
theorem ranks_step (t : Town) (p : List Int) {k : Nat} (h : k < p.length) : rI ((ranks t p).take k) ++ [[.int .i64 (rank t k p[k])]] = rI ((ranks t p).take (k + 1)) := by
  rw [ranks_take t p h]; simp [rI]
theorem dist_nat {t : Town} {i k : Nat} (hi : i < t.walk.length) (hk : k < (t.walk[i]).length) : dist t i k = (t.walk[i])[k] := by simp [dist, hi, hk]
end Go.Ab.M
namespace Go.Ab
open Go Go.RowKit Go.Proofs Fac
set_option linter.unusedVariables false
set_option linter.unusedSimpArgs false
set_option maxRecDepth 4000
set_option maxHeartbeats 1000000

theorem ref_in (x lo hi : Int) : Ret Try.prog 43 [.int .i64 x, .int .i64 lo, .int .i64 hi] (.bool (M.inr x lo hi)) := by
  apply Ret_fin (fn := Try.f43) Try.func43 rfl
  apply T_seq
  apply T_r F
  · (simp only [go_sem, Try.ntmps43]) <;> exact rfl
  apply K_seq
  apply T_seq
  apply T_wL F [0, 1, 2, 3, 4, 5, 6, 7, 8] rfl
  apply W_pre [0, 1, 2, 3] [4, 5, 6, 7, 8]
  · (simp only [go_sem, Try.ntmps43]) <;> exact rfl
  apply W_guard
  · (simp only [go_sem, Try.ntmps43]) <;> exact rfl
  · (simp only [go_sem, Try.ntmps43]) <;> exact rfl
  · intro bg0t
    have g0t := bg0t
    try simp only [CS] at g0t
    try simp only [BS] at bg0t
    try exact absurd bg0t (by decide)
    all_goals (
  apply W_run
  · (simp only [go_sem, Try.ntmps43, bg0t]) <;> exact rfl
  apply W_nil
  apply K_seq
  apply T_ret
  apply fin_ret
  · (simp only [go_sem, Try.ntmps43, bg0t, Try.f43]) <;> exact rfl
  -- leaf 0 (ret)
  simp only [go_sem, Try.ntmps43, bg0t, V.bool.injEq, V.int.injEq, true_and]
  grind [M.inr])
  · intro bg0f
    have g0f := bg0f
    try simp only [CS] at g0f
    try simp only [BS] at bg0f
    try exact absurd bg0f (by decide)
    all_goals (
  apply W_run
  · (simp only [go_sem, Try.ntmps43, bg0f]) <;> exact rfl
  apply W_nil
  apply K_seq
  apply T_ret
  apply fin_ret
  · (simp only [go_sem, Try.ntmps43, bg0f, Try.f43]) <;> exact rfl
  -- leaf 1 (ret)
  simp only [go_sem, Try.ntmps43, bg0f, V.bool.injEq, V.int.injEq, true_and]
  grind [M.inr])

theorem ref_has (l : List Int) (n : Int) : Ret Try.prog 18 [.sl 1 (rI l), .int .i64 n] (.bool (l.contains n)) := by
  refine Ret.of_fits fun hfits => ?_
  simp only [V.fits, V.fitsL, V.fitsR, rI_length] at hfits
  have hl := hfits.1.1
  apply Ret_fin (fn := Try.f18) Try.func18 rfl
  apply T_seq
  apply T_r F
  · (simp only [go_sem, Try.ntmps18]) <;> exact rfl
  apply K_seq
  apply T_seq
  apply T_seq
  apply T_r F
  · (simp only [go_sem, Try.ntmps18]) <;> exact rfl
  apply K_seq
  apply T_block
  apply T_lp (α := Nat) [true, true, false, false, false, true, false, false, false, false, false, false, false, false, false, false, false, false] (fun k => (⟨[.sl 1 (rI l), .int .i64 n, .undef, .undef, .undef, .int .i64 (k : Int), .undef, .undef, .undef, .undef, .undef, .undef, .undef, .undef, .undef, .undef, .undef, .undef], []⟩ : St)) (fun k => k ≤ l.length ∧ (l.drop k).contains n = l.contains n) (fun k => l.length - k) (0)
  · (simp only [go_sem, Try.ntmps18]) <;> exact rfl
  · simp
  · rintro k ⟨hk, hj⟩
    apply T_seq
    apply T_seq
    apply T_r F
    · (simp only [go_sem, Try.ntmps18]) <;> exact rfl
    apply K_seq
    apply T_if
    · (simp only [go_sem, Try.ntmps18]) <;> exact rfl
    · intro bh0t
      have h0t := bh0t
      try simp only [CS] at h0t
      try simp only [BS] at bh0t
      try exact absurd bh0t (by decide)
      all_goals (
  have hb : k < 9223372036854775807 := by omega
  have hd := List.drop_eq_getElem_cons h0t
  apply T_skip
  apply K_seq
  apply T_seq
  apply T_block
  apply T_seq
  apply T_r F
  · (simp only [go_sem, Try.ntmps18, bh0t, h0t, rI_get h0t, hb]) <;> exact rfl
  apply K_seq
  apply T_if
  · (simp only [go_sem, Try.ntmps18, bh0t, h0t, rI_get h0t, hb]) <;> exact rfl
  · intro bh1t
    have h1t := bh1t
    try simp only [CS] at h1t
    try simp only [BS] at bh1t
    try exact absurd bh1t (by decide)
    all_goals (
  apply T_seq
  apply T_r F
  · (simp only [go_sem, Try.ntmps18, bh0t, h0t, rI_get h0t, hb, bh1t]) <;> exact rfl
  apply K_seq
  apply T_ret
  apply K_blkR
  apply K_seqR
  apply K_lpR
  apply K_blkR
  apply K_seqR
  apply fin_ret
  · (simp only [go_sem, Try.ntmps18, bh0t, h0t, rI_get h0t, hb, bh1t, Try.f18]) <;> exact rfl
  -- leaf 0 (ret)
  simp only [go_sem, Try.ntmps18, bh0t, h0t, rI_get h0t, hb, bh1t, V.bool.injEq, V.int.injEq, true_and]
  grind)
  · intro bh1f
    have h1f := bh1f
    try simp only [CS] at h1f
    try simp only [BS] at bh1f
    try exact absurd bh1f (by decide)
    all_goals (
  apply T_skip
  apply K_blk
  apply K_seq
  apply T_r F
  · (simp only [go_sem, Try.ntmps18, bh0t, h0t, rI_get h0t, hb, bh1f]) <;> exact rfl
  refine K_lp (k + 1) ?_ ?_
  · (simp only [go_sem, Try.ntmps18, bh0t, h0t, rI_get h0t, hb, bh1f]) <;> exact rfl
  -- leaf 1 (loop0)
  grind))
    · intro bh0f
      have h0f := bh0f
      try simp only [CS] at h0f
      try simp only [BS] at bh0f
      try exact absurd bh0f (by decide)
      all_goals (
  apply T_exit
  apply K_seqE
  apply K_lpE
  apply K_blkE
  apply K_seq
  apply T_seq
  apply T_r F
  · (simp only [go_sem, Try.ntmps18, bh0f]) <;> exact rfl
  apply K_seq
  apply T_ret
  apply fin_ret
  · (simp only [go_sem, Try.ntmps18, bh0f, Try.f18]) <;> exact rfl
  -- leaf 2 (ret)
  simp only [go_sem, Try.ntmps18, bh0f, V.bool.injEq, V.int.injEq, true_and]
  grind)

theorem ref_lot (t : Town) (n : Int) : Ret Try.prog 33 [.agg (cT t), .int .i64 n] (.bool (M.lot t n)) := by
  refine Ret.of_fits fun hfits => ?_
  simp only [V.fits, V.fitsL, V.fitsR, cT_fits] at hfits
  have ht := hfits.1.walk
  apply Ret_fin (fn := Try.f33) Try.func33 rfl
  apply T_seq
  apply T_r F
  · (simp only [go_sem, Try.ntmps33, wrap_len ht]) <;> exact rfl
  apply K_seq
  apply T_seq
  apply T_wL F [0, 1, 2, 3, 4, 5, 6] rfl
  apply W_pre [0, 1, 2, 3, 4] [5, 6]
  · (simp only [go_sem, Try.ntmps33, wrap_len ht]) <;> exact rfl
  apply W_call -- call 0 of function 43
  · (simp only [go_sem, Try.ntmps33, wrap_len ht]) <;> exact rfl
  · (simp only [go_sem, Try.ntmps33, wrap_len ht]) <;> exact rfl
  · exact rfl
  · (simp only [go_sem, Try.ntmps33, wrap_len ht]) <;> exact rfl
  · (simp only [go_sem, Try.ntmps33, wrap_len ht]) <;> exact rfl
  · exact ⟨_, Try.func43, rfl, rfl⟩
  · (simp only [go_sem, Try.ntmps33, wrap_len ht]) <;> exact rfl
  · (simp only [go_sem, Try.ntmps33, wrap_len ht]) <;> exact rfl
  · exact ref_in _ _ _
  apply W_run
  · (simp only [go_sem, Try.ntmps33, wrap_len ht]) <;> exact rfl
  apply W_nil
  apply K_seq
  apply T_ret
  apply fin_ret
  · (simp only [go_sem, Try.ntmps33, wrap_len ht, Try.f33]) <;> exact rfl
  -- leaf 0 (ret)
  simp only [go_sem, Try.ntmps33, wrap_len ht, V.bool.injEq, V.int.injEq, true_and]
  first | rfl | simp [M.lot]

theorem ref_house (t : Town) (n : Int) : Ret Try.prog 15 [.agg (cT t), .int .i64 n] (.bool (M.house t n)) := by
  refine Ret.of_fits fun hfits => ?_
  simp only [V.fits, V.fitsL, V.fitsR, cT_fits] at hfits
  have ht := hfits.1.houses
  apply Ret_fin (fn := Try.f15) Try.func15 rfl
  apply T_seq
  apply T_r F
  · (simp only [go_sem, Try.ntmps15, wrap_len ht]) <;> exact rfl
  apply K_seq
  apply T_seq
  apply T_wL F [0, 1, 2, 3, 4, 5, 6] rfl
  apply W_pre [0, 1, 2, 3, 4] [5, 6]
  · (simp only [go_sem, Try.ntmps15, wrap_len ht]) <;> exact rfl
  apply W_call -- call 0 of function 43
  · (simp only [go_sem, Try.ntmps15, wrap_len ht]) <;> exact rfl
  · (simp only [go_sem, Try.ntmps15, wrap_len ht]) <;> exact rfl
  · exact rfl
  · (simp only [go_sem, Try.ntmps15, wrap_len ht]) <;> exact rfl
  · (simp only [go_sem, Try.ntmps15, wrap_len ht]) <;> exact rfl
  · exact ⟨_, Try.func43, rfl, rfl⟩
  · (simp only [go_sem, Try.ntmps15, wrap_len ht]) <;> exact rfl
  · (simp only [go_sem, Try.ntmps15, wrap_len ht]) <;> exact rfl
  · exact ref_in _ _ _
  apply W_run
  · (simp only [go_sem, Try.ntmps15, wrap_len ht]) <;> exact rfl
  apply W_nil
  apply K_seq
  apply T_ret
  apply fin_ret
  · (simp only [go_sem, Try.ntmps15, wrap_len ht, Try.f15]) <;> exact rfl
  -- leaf 0 (ret)
  simp only [go_sem, Try.ntmps15, wrap_len ht, V.bool.injEq, V.int.injEq, true_and]
  first | rfl | simp [M.house]

theorem ref_sum (l : List Int) (hb0 : ∀ x ∈ l, -1000 ≤ x ∧ x ≤ 1000) (hb1 : l.length ≤ 1000) : Ret Try.prog 30 [.sl 1 (rI l)] (.int .i64 (M.sum l)) := by
  apply Ret_fin (fn := Try.f30) Try.func30 rfl
  apply T_seq
  apply T_r F
  · (simp only [go_sem, Try.ntmps30]) <;> exact rfl
  apply K_seq
  apply T_seq
  apply T_r F
  · (simp only [go_sem, Try.ntmps30]) <;> exact rfl
  apply K_seq
  apply T_seq
  apply T_seq
  apply T_r F
  · (simp only [go_sem, Try.ntmps30]) <;> exact rfl
  apply K_seq
  apply T_block
  apply T_lp (α := Nat) [true, false, false, true, true, false, false, false, false, false, false, false, false, false, false, false, false, false] (fun k => (⟨[.sl 1 (rI l), .undef, .undef, .int .i64 (M.sum (l.take k)), .int .i64 (k : Int), .undef, .undef, .undef, .undef, .undef, .undef, .undef, .undef, .undef, .undef, .undef, .undef, .undef], []⟩ : St)) (fun k => k ≤ l.length) (fun k => l.length - k) (0)
  · (simp only [go_sem, Try.ntmps30]) <;> exact rfl
  · omega
  · rintro k hk
    apply T_seq
    apply T_seq
    apply T_r F
    · (simp only [go_sem, Try.ntmps30]) <;> exact rfl
    apply K_seq
    apply T_if
    · (simp only [go_sem, Try.ntmps30]) <;> exact rfl
    · intro bh0t
      have h0t := bh0t
      try simp only [CS] at h0t
      try simp only [BS] at bh0t
      try exact absurd bh0t (by decide)
      all_goals (
  have hb : k < 9223372036854775807 := by omega
  have hs : IntKind.i64.wrap (M.sum (l.take k) + l[k]) = M.sum (l.take (k + 1)) := by
    rw [M.sum_take h0t]
    have h1 := M.sum_bound (l := l.take k) (fun x hx => hb0 x (List.mem_of_mem_take hx))
    have h2 := hb0 l[k] (List.getElem_mem h0t)
    have h3 : (l.take k).length ≤ 1000 := by simp; omega
    exact wrap_id (by omega) (by omega)
  apply T_skip
  apply K_seq
  apply T_seq
  apply T_block
  apply T_r F
  · (simp only [go_sem, Try.ntmps30, bh0t, h0t, rI_get h0t, hb, hs]) <;> exact rfl
  apply K_blk
  apply K_seq
  apply T_r F
  · (simp only [go_sem, Try.ntmps30, bh0t, h0t, rI_get h0t, hb, hs]) <;> exact rfl
  refine K_lp (k + 1) ?_ ?_
  · (simp only [go_sem, Try.ntmps30, bh0t, h0t, rI_get h0t, hb, hs]) <;> exact rfl
  -- leaf 0 (loop0)
  omega)
    · intro bh0f
      have h0f := bh0f
      try simp only [CS] at h0f
      try simp only [BS] at bh0f
      try exact absurd bh0f (by decide)
      all_goals (
  apply T_exit
  apply K_seqE
  apply K_lpE
  apply K_blkE
  apply K_seq
  apply T_seq
  apply T_r F
  · (simp only [go_sem, Try.ntmps30, bh0f]) <;> exact rfl
  apply K_seq
  apply T_ret
  apply fin_ret
  · (simp only [go_sem, Try.ntmps30, bh0f, Try.f30]) <;> exact rfl
  -- leaf 1 (ret)
  simp only [go_sem, Try.ntmps30, bh0f, V.bool.injEq, V.int.injEq, true_and]
  rw [List.take_of_length_le (by omega)])

theorem ref_most (l : List Int) : Ret Try.prog 32 [.sl 1 (rI l)] (.int .i64 (M.most l)) := by
  refine Ret.of_fits fun hfits => ?_
  simp only [V.fits, V.fitsL, V.fitsR, rI_length] at hfits
  have hl := hfits.1.1
  apply Ret_fin (fn := Try.f32) Try.func32 rfl
  apply T_seq
  apply T_r F
  · (simp only [go_sem, Try.ntmps32]) <;> exact rfl
  apply K_seq
  apply T_seq
  apply T_r F
  · (simp only [go_sem, Try.ntmps32]) <;> exact rfl
  apply K_seq
  apply T_seq
  apply T_seq
  apply T_r F
  · (simp only [go_sem, Try.ntmps32]) <;> exact rfl
  apply K_seq
  apply T_block
  apply T_lp (α := Nat) [true, false, false, true, true, false, false, false, false, false, false, false, false, false, false, false, false, false] (fun k => (⟨[.sl 1 (rI l), .undef, .undef, .int .i64 (M.most (l.take k)), .int .i64 (k : Int), .undef, .undef, .undef, .undef, .undef, .undef, .undef, .undef, .undef, .undef, .undef, .undef, .undef], []⟩ : St)) (fun k => k ≤ l.length) (fun k => l.length - k) (0)
  · (simp only [go_sem, Try.ntmps32]) <;> exact rfl
  · omega
  · rintro k hk
    apply T_seq
    apply T_seq
    apply T_r F
    · (simp only [go_sem, Try.ntmps32]) <;> exact rfl
    apply K_seq
    apply T_if
    · (simp only [go_sem, Try.ntmps32]) <;> exact rfl
    · intro bh0t
      have h0t := bh0t
      try simp only [CS] at h0t
      try simp only [BS] at bh0t
      try exact absurd bh0t (by decide)
      all_goals (
  have hb : k < 9223372036854775807 := by omega
  have hs : (if l[k] > M.most (l.take k) then l[k] else M.most (l.take k)) = M.most (l.take (k + 1)) := by
    rw [M.most_take h0t]
    grind
  simp only [gt_iff_lt] at hs
  apply T_skip
  apply K_seq
  apply T_seq
  apply T_block
  apply T_r F
  · (simp only [go_sem, Try.ntmps32, bh0t, h0t, rI_get h0t, hb, hs]) <;> exact rfl
  apply K_blk
  apply K_seq
  apply T_r F
  · (simp only [go_sem, Try.ntmps32, bh0t, h0t, rI_get h0t, hb, hs]) <;> exact rfl
  refine K_lp (k + 1) ?_ ?_
  · (simp only [go_sem, Try.ntmps32, bh0t, h0t, rI_get h0t, hb, hs]) <;> exact rfl
  -- leaf 0 (loop0)
  omega)
    · intro bh0f
      have h0f := bh0f
      try simp only [CS] at h0f
      try simp only [BS] at bh0f
      try exact absurd bh0f (by decide)
      all_goals (
  apply T_exit
  apply K_seqE
  apply K_lpE
  apply K_blkE
  apply K_seq
  apply T_seq
  apply T_r F
  · (simp only [go_sem, Try.ntmps32, bh0f]) <;> exact rfl
  apply K_seq
  apply T_ret
  apply fin_ret
  · (simp only [go_sem, Try.ntmps32, bh0f, Try.f32]) <;> exact rfl
  -- leaf 1 (ret)
  simp only [go_sem, Try.ntmps32, bh0f, V.bool.injEq, V.int.injEq, true_and]
  rw [List.take_of_length_le (by omega)])

theorem ref_near (t : Town) (a b : Int) (h1 : 0 ≤ a) (h2 : a.toNat < t.walk.length) (h3 : 0 ≤ b) (h4 : b.toNat < (t.walk[a.toNat]).length) : Ret Try.prog 69 [.agg (cT t), .int .i64 a, .int .i64 b] (.bool (M.near t a b)) := by
  apply Ret_fin (fn := Try.f69) Try.func69 rfl
  apply T_seq
  apply T_r F
  · (simp only [go_sem, Try.ntmps69, h1, h2, h3, h4, rL_get h2, rI_get h4]) <;> exact rfl
  apply K_seq
  apply T_seq
  apply T_qL F [0, 1, 2, 3, 4, 5, 6, 7, 8, 9, 10, 11] rfl (by kernel_rfl)
  apply Q_pre [0, 1, 2, 3] [4, 5, 6, 7, 8, 9, 10, 11]
  · (simp only [go_sem, Try.ntmps69, h1, h2, h3, h4, rL_get h2, rI_get h4]) <;> exact rfl
  apply Q_pre [4, 5, 6, 7] [8, 9, 10, 11]
  · (simp only [go_sem, Try.ntmps69, h1, h2, h3, h4, rL_get h2, rI_get h4]) <;> exact rfl
  apply Q_run
  · (simp only [go_sem, Try.ntmps69, h1, h2, h3, h4, rL_get h2, rI_get h4]) <;> exact rfl
  apply Q_nil
  apply K_seq
  apply T_ret
  apply fin_ret
  · (simp only [go_sem, Try.ntmps69, h1, h2, h3, h4, rL_get h2, rI_get h4, Try.f69]) <;> exact rfl
  -- leaf 0 (ret)
  simp only [go_sem, Try.ntmps69, h1, h2, h3, h4, rL_get h2, rI_get h4, V.bool.injEq, V.int.injEq, true_and]
  simp [M.near, M.dist_get h2 h4]

theorem ref_plan (t : Town) (p : List Int) : Ret Try.prog 14 [.agg (cT t), .sl 1 (rI p)] (.bool (M.plan t p)) := by
  refine Ret.of_fits fun hfits => ?_
  simp only [V.fits, V.fitsL, V.fitsR, cT_fits] at hfits
  simp only [V.fits, V.fitsL, rI_length] at hfits
  have hl := hfits.2.1.1
  apply Ret_fin (fn := Try.f14) Try.func14 rfl
  apply T_seq
  apply T_r F
  · (simp only [go_sem, Try.ntmps14]) <;> exact rfl
  apply K_seq
  apply T_seq
  apply T_seq
  apply T_r F
  · (simp only [go_sem, Try.ntmps14]) <;> exact rfl
  apply K_seq
  apply T_block
  apply T_lp (α := Nat) [false, true, true, false, false, true, false, false, false, false, false, false, false, false, false, false, false, false, false, false, false, false, false, false, false] (fun k => (⟨[.undef, .sl 1 (rI p), .ptr 0 0, .undef, .undef, .int .i64 (k : Int), .undef, .undef, .undef, .undef, .undef, .undef, .undef, .undef, .undef, .undef, .undef, .undef, .undef, .undef, .undef, .undef, .undef, .undef, .undef], [.box 28 (cT t)]⟩ : St)) (fun k => k ≤ p.length ∧ (p.drop k).all (M.lot t) = p.all (M.lot t)) (fun k => p.length - k) (0)
  · (simp only [go_sem, Try.ntmps14]) <;> exact rfl
  · simp
  · rintro k ⟨hk, hj⟩
    apply T_seq
    apply T_seq
    apply T_r F
    · (simp only [go_sem, Try.ntmps14]) <;> exact rfl
    apply K_seq
    apply T_if
    · (simp only [go_sem, Try.ntmps14]) <;> exact rfl
    · intro bh0t
      have h0t := bh0t
      try simp only [CS] at h0t
      try simp only [BS] at bh0t
      try exact absurd bh0t (by decide)
      all_goals (
  have hb : k < 9223372036854775807 := by omega
  have hd := List.drop_eq_getElem_cons h0t
  apply T_skip
  apply K_seq
  apply T_seq
  apply T_block
  apply T_seq
  apply T_qL F [0, 1, 2, 3, 4, 5, 6] rfl (by kernel_rfl)
  apply Q_pre [0, 1, 2, 3, 4] [5, 6]
  · (simp only [go_sem, Try.ntmps14, bh0t, h0t, rI_get h0t, hb]) <;> exact rfl
  apply Q_call -- call 0 of function 33
  · (simp only [go_sem, Try.ntmps14, bh0t, h0t, rI_get h0t, hb]) <;> exact rfl
  · (simp only [go_sem, Try.ntmps14, bh0t, h0t, rI_get h0t, hb]) <;> exact rfl
  · exact rfl
  · (simp only [go_sem, Try.ntmps14, bh0t, h0t, rI_get h0t, hb]) <;> exact rfl
  · (simp only [go_sem, Try.ntmps14, bh0t, h0t, rI_get h0t, hb]) <;> exact rfl
  · exact ⟨_, Try.func33, rfl, rfl⟩
  · (simp only [go_sem, Try.ntmps14, bh0t, h0t, rI_get h0t, hb]) <;> exact rfl
  · exact ref_lot _ _
  apply Q_run
  · (simp only [go_sem, Try.ntmps14, bh0t, h0t, rI_get h0t, hb]) <;> exact rfl
  apply Q_nil
  apply K_seq
  apply T_if
  · (simp only [go_sem, Try.ntmps14, bh0t, h0t, rI_get h0t, hb]) <;> exact rfl
  · intro bh1t
    have h1t := bh1t
    try simp only [CS] at h1t
    try simp only [BS] at bh1t
    try exact absurd bh1t (by decide)
    all_goals (
  apply T_seq
  apply T_r F
  · (simp only [go_sem, Try.ntmps14, bh0t, h0t, rI_get h0t, hb, bh1t]) <;> exact rfl
  apply K_seq
  apply T_ret
  apply K_blkR
  apply K_seqR
  apply K_lpR
  apply K_blkR
  apply K_seqR
  apply fin_ret
  · (simp only [go_sem, Try.ntmps14, bh0t, h0t, rI_get h0t, hb, bh1t, Try.f14]) <;> exact rfl
  -- leaf 0 (ret)
  simp only [go_sem, Try.ntmps14, bh0t, h0t, rI_get h0t, hb, bh1t, V.bool.injEq, V.int.injEq, true_and]
  grind [M.plan])
  · intro bh1f
    have h1f := bh1f
    try simp only [CS] at h1f
    try simp only [BS] at bh1f
    try exact absurd bh1f (by decide)
    all_goals (
  apply T_skip
  apply K_blk
  apply K_seq
  apply T_r F
  · (simp only [go_sem, Try.ntmps14, bh0t, h0t, rI_get h0t, hb, bh1f]) <;> exact rfl
  refine K_lp (k + 1) ?_ ?_
  · (simp only [go_sem, Try.ntmps14, bh0t, h0t, rI_get h0t, hb, bh1f]) <;> exact rfl
  -- leaf 1 (loop0)
  grind))
    · intro bh0f
      have h0f := bh0f
      try simp only [CS] at h0f
      try simp only [BS] at bh0f
      try exact absurd bh0f (by decide)
      all_goals (
  apply T_exit
  apply K_seqE
  apply K_lpE
  apply K_blkE
  apply K_seq
  apply T_seq
  apply T_r F
  · (simp only [go_sem, Try.ntmps14, bh0f]) <;> exact rfl
  apply K_seq
  apply T_ret
  apply fin_ret
  · (simp only [go_sem, Try.ntmps14, bh0f, Try.f14]) <;> exact rfl
  -- leaf 2 (ret)
  simp only [go_sem, Try.ntmps14, bh0f, V.bool.injEq, V.int.injEq, true_and]
  grind [M.plan])

theorem ref_same (l m : List Int) : Ret Try.prog 23 [.sl 1 (rI l), .sl 1 (rI m)] (.bool (l == m)) := by
  refine Ret.of_fits fun hfits => ?_
  simp only [V.fits, V.fitsL, V.fitsR, rI_length] at hfits
  have hl := hfits.1.1
  apply Ret_fin (fn := Try.f23) Try.func23 rfl
  apply T_seq
  apply T_r F
  · (simp only [go_sem, Try.ntmps23]) <;> exact rfl
  apply K_seq
  apply T_seq
  apply T_seq
  apply T_r F
  · (simp only [go_sem, Try.ntmps23]) <;> exact rfl
  apply K_seq
  apply T_if
  · (simp only [go_sem, Try.ntmps23]) <;> exact rfl
  · intro bh0t
    have h0t := bh0t
    try simp only [CS] at h0t
    try simp only [BS] at bh0t
    try exact absurd bh0t (by decide)
    all_goals (
  apply T_seq
  apply T_r F
  · (simp only [go_sem, Try.ntmps23, bh0t]) <;> exact rfl
  apply K_seq
  apply T_ret
  apply K_seqR
  apply fin_ret
  · (simp only [go_sem, Try.ntmps23, bh0t, Try.f23]) <;> exact rfl
  -- leaf 0 (ret)
  simp only [go_sem, Try.ntmps23, bh0t, V.bool.injEq, V.int.injEq, true_and]
  grind)
  · intro bh0f
    have h0f := bh0f
    try simp only [CS] at h0f
    try simp only [BS] at bh0f
    try exact absurd bh0f (by decide)
    all_goals (
  apply T_skip
  apply K_seq
  apply T_seq
  apply T_seq
  apply T_r F
  · (simp only [go_sem, Try.ntmps23, bh0f]) <;> exact rfl
  apply K_seq
  apply T_block
  apply T_lp (α := Nat) [true, true, false, false, false, true, false, false, false, false, false, false, false, false, false, false, false, false, false, false, false, false, false, false, false, false] (fun k => (⟨[.sl 1 (rI l), .sl 1 (rI m), .undef, .undef, .undef, .int .i64 (k : Int), .undef, .undef, .undef, .undef, .undef, .undef, .undef, .undef, .undef, .undef, .undef, .undef, .undef, .undef, .undef, .undef, .undef, .undef, .undef, .undef], []⟩ : St)) (fun k => k ≤ l.length ∧ (l.drop k == m.drop k) = (l == m)) (fun k => l.length - k) (0)
  · (simp only [go_sem, Try.ntmps23, bh0f]) <;> exact rfl
  · simp
  · rintro k ⟨hk, hj⟩
    apply T_seq
    apply T_seq
    apply T_r F
    · (simp only [go_sem, Try.ntmps23, bh0f]) <;> exact rfl
    apply K_seq
    apply T_if
    · (simp only [go_sem, Try.ntmps23, bh0f]) <;> exact rfl
    · intro bh1t
      have h1t := bh1t
      try simp only [CS] at h1t
      try simp only [BS] at bh1t
      try exact absurd bh1t (by decide)
      all_goals (
  have hb : k < 9223372036854775807 := by omega
  have hm : k < m.length := by omega
  have hd := List.drop_eq_getElem_cons h1t
  have he := List.drop_eq_getElem_cons hm
  apply T_skip
  apply K_seq
  apply T_seq
  apply T_block
  apply T_seq
  apply T_qL F [0, 1, 2, 3, 4, 5, 6, 7, 8] rfl (by kernel_rfl)
  apply Q_pre [0, 1, 2, 3] [4, 5, 6, 7, 8]
  · (simp only [go_sem, Try.ntmps23, bh0f, bh1t, h1t, rI_get h1t, hb, hm, rI_get hm]) <;> exact rfl
  apply Q_run
  · (simp only [go_sem, Try.ntmps23, bh0f, bh1t, h1t, rI_get h1t, hb, hm, rI_get hm]) <;> exact rfl
  apply Q_nil
  apply K_seq
  apply T_if
  · (simp only [go_sem, Try.ntmps23, bh0f, bh1t, h1t, rI_get h1t, hb, hm, rI_get hm]) <;> exact rfl
  · intro bh2t
    have h2t := bh2t
    try simp only [CS] at h2t
    try simp only [BS] at bh2t
    try exact absurd bh2t (by decide)
    all_goals (
  apply T_seq
  apply T_r F
  · (simp only [go_sem, Try.ntmps23, bh0f, bh1t, h1t, rI_get h1t, hb, hm, rI_get hm, bh2t]) <;> exact rfl
  apply K_seq
  apply T_ret
  apply K_blkR
  apply K_seqR
  apply K_lpR
  apply K_blkR
  apply K_seqR
  apply fin_ret
  · (simp only [go_sem, Try.ntmps23, bh0f, bh1t, h1t, rI_get h1t, hb, hm, rI_get hm, bh2t, Try.f23]) <;> exact rfl
  -- leaf 1 (ret)
  simp only [go_sem, Try.ntmps23, bh0f, bh1t, h1t, rI_get h1t, hb, hm, rI_get hm, bh2t, V.bool.injEq, V.int.injEq, true_and]
  grind)
  · intro bh2f
    have h2f := bh2f
    try simp only [CS] at h2f
    try simp only [BS] at bh2f
    try exact absurd bh2f (by decide)
    all_goals (
  apply T_skip
  apply K_blk
  apply K_seq
  apply T_r F
  · (simp only [go_sem, Try.ntmps23, bh0f, bh1t, h1t, rI_get h1t, hb, hm, rI_get hm, bh2f]) <;> exact rfl
  refine K_lp (k + 1) ?_ ?_
  · (simp only [go_sem, Try.ntmps23, bh0f, bh1t, h1t, rI_get h1t, hb, hm, rI_get hm, bh2f]) <;> exact rfl
  -- leaf 2 (loop0)
  grind))
    · intro bh1f
      have h1f := bh1f
      try simp only [CS] at h1f
      try simp only [BS] at bh1f
      try exact absurd bh1f (by decide)
      all_goals (
  apply T_exit
  apply K_seqE
  apply K_lpE
  apply K_blkE
  apply K_seq
  apply T_seq
  apply T_r F
  · (simp only [go_sem, Try.ntmps23, bh0f, bh1f]) <;> exact rfl
  apply K_seq
  apply T_ret
  apply fin_ret
  · (simp only [go_sem, Try.ntmps23, bh0f, bh1f, Try.f23]) <;> exact rfl
  -- leaf 3 (ret)
  simp only [go_sem, Try.ntmps23, bh0f, bh1f, V.bool.injEq, V.int.injEq, true_and]
  grind))

end Go.Ab
namespace Go.Ab
open Go Go.RowKit Go.Proofs Fac
set_option linter.unusedVariables false
set_option linter.unusedSimpArgs false
set_option maxRecDepth 4000
set_option maxHeartbeats 1000000

theorem ref_before (l m : List Int) : Ret Try.prog 25 [.sl 1 (rI l), .sl 1 (rI m)] (.bool (M.before l m)) := by
  refine Ret.of_fits fun hfits => ?_
  simp only [V.fits, V.fitsL, V.fitsR, rI_length] at hfits
  have hl := hfits.1.1
  apply Ret_fin (fn := Try.f25) Try.func25 rfl
  apply T_seq
  apply T_r F
  · (simp only [go_sem, Try.ntmps25]) <;> exact rfl
  apply K_seq
  apply T_seq
  apply T_seq
  apply T_r F
  · (simp only [go_sem, Try.ntmps25]) <;> exact rfl
  apply K_seq
  apply T_block
  apply T_lp (α := Nat) [true, true, false, false, false, true, false, false, false, false, false, false, false, false, false, false, false, false, false, false, false, false, false, false, false, false, false, false, false, false, false, false, false, false, false, false] (fun k => (⟨[.sl 1 (rI l), .sl 1 (rI m), .undef, .undef, .undef, .int .i64 (k : Int), .undef, .undef, .undef, .undef, .undef, .undef, .undef, .undef, .undef, .undef, .undef, .undef, .undef, .undef, .undef, .undef, .undef, .undef, .undef, .undef, .undef, .undef, .undef, .undef, .undef, .undef, .undef, .undef, .undef, .undef], []⟩ : St)) (fun k => k ≤ l.length ∧ k ≤ m.length ∧ M.before (l.drop k) (m.drop k) = M.before l m) (fun k => l.length - k) (0)
  · (simp only [go_sem, Try.ntmps25]) <;> exact rfl
  · simp
  · rintro k ⟨hk, hm, hj⟩
    apply T_seq
    apply T_seq
    apply T_wL F [0, 1, 2, 3, 4, 5, 6, 7, 8, 9] rfl
    apply W_pre [0, 1, 2, 3, 4] [5, 6, 7, 8, 9]
    · (simp only [go_sem, Try.ntmps25]) <;> exact rfl
    apply W_guard
    · (simp only [go_sem, Try.ntmps25]) <;> exact rfl
    · (simp only [go_sem, Try.ntmps25]) <;> exact rfl
    · intro bg0t
      have g0t := bg0t
      try simp only [CS] at g0t
      try simp only [BS] at bg0t
      try exact absurd bg0t (by decide)
      all_goals (
  apply W_run
  · (simp only [go_sem, Try.ntmps25, bg0t]) <;> exact rfl
  apply W_nil
  apply K_seq
  apply T_if
  · (simp only [go_sem, Try.ntmps25, bg0t]) <;> exact rfl
  · intro bh0t
    have h0t := bh0t
    try simp only [CS] at h0t
    try simp only [BS] at bh0t
    try exact absurd bh0t (by decide)
    all_goals (
  have hb : k < 9223372036854775807 := by omega
  have hd := List.drop_eq_getElem_cons h0t
  have he := List.drop_eq_getElem_cons g0t
  have hB := M.before_drop g0t h0t
  apply T_skip
  apply K_seq
  apply T_seq
  apply T_block
  apply T_seq
  apply T_qL F [0, 1, 2, 3, 4, 5, 6, 7, 8] rfl (by kernel_rfl)
  apply Q_pre [0, 1, 2, 3] [4, 5, 6, 7, 8]
  · (simp only [go_sem, Try.ntmps25, bg0t, bh0t, h0t, rI_get h0t, rI_get g0t, hb]) <;> exact rfl
  apply Q_run
  · (simp only [go_sem, Try.ntmps25, bg0t, bh0t, h0t, rI_get h0t, rI_get g0t, hb]) <;> exact rfl
  apply Q_nil
  apply K_seq
  apply T_if
  · (simp only [go_sem, Try.ntmps25, bg0t, bh0t, h0t, rI_get h0t, rI_get g0t, hb]) <;> exact rfl
  · intro bh1t
    have h1t := bh1t
    try simp only [CS] at h1t
    try simp only [BS] at bh1t
    try exact absurd bh1t (by decide)
    all_goals (
  apply T_seq
  apply T_qL F [0, 1, 2, 3, 4, 5, 6, 7, 8, 9] rfl (by kernel_rfl)
  apply Q_pre [0, 1, 2, 3] [4, 5, 6, 7, 8, 9]
  · (simp only [go_sem, Try.ntmps25, bg0t, bh0t, h0t, rI_get h0t, rI_get g0t, hb, bh1t]) <;> exact rfl
  apply Q_run
  · (simp only [go_sem, Try.ntmps25, bg0t, bh0t, h0t, rI_get h0t, rI_get g0t, hb, bh1t]) <;> exact rfl
  apply Q_nil
  apply K_seq
  apply T_ret
  apply K_blkR
  apply K_seqR
  apply K_lpR
  apply K_blkR
  apply K_seqR
  apply fin_ret
  · (simp only [go_sem, Try.ntmps25, bg0t, bh0t, h0t, rI_get h0t, rI_get g0t, hb, bh1t, Try.f25]) <;> exact rfl
  -- leaf 0 (ret)
  simp only [go_sem, Try.ntmps25, bg0t, bh0t, h0t, rI_get h0t, rI_get g0t, hb, bh1t, V.bool.injEq, V.int.injEq, true_and]
  grind [M.before_end])
  · intro bh1f
    have h1f := bh1f
    try simp only [CS] at h1f
    try simp only [BS] at bh1f
    try exact absurd bh1f (by decide)
    all_goals (
  apply T_skip
  apply K_blk
  apply K_seq
  apply T_r F
  · (simp only [go_sem, Try.ntmps25, bg0t, bh0t, h0t, rI_get h0t, rI_get g0t, hb, bh1f]) <;> exact rfl
  refine K_lp (k + 1) ?_ ?_
  · (simp only [go_sem, Try.ntmps25, bg0t, bh0t, h0t, rI_get h0t, rI_get g0t, hb, bh1f]) <;> exact rfl
  -- leaf 1 (loop0)
  grind))
  · intro bh0f
    have h0f := bh0f
    try simp only [CS] at h0f
    try simp only [BS] at bh0f
    try exact absurd bh0f (by decide)
    all_goals (
  apply T_exit
  apply K_seqE
  apply K_lpE
  apply K_blkE
  apply K_seq
  apply T_seq
  apply T_r F
  · (simp only [go_sem, Try.ntmps25, bg0t, bh0f]) <;> exact rfl
  apply K_seq
  apply T_ret
  apply fin_ret
  · (simp only [go_sem, Try.ntmps25, bg0t, bh0f, Try.f25]) <;> exact rfl
  -- leaf 2 (ret)
  simp only [go_sem, Try.ntmps25, bg0t, bh0f, V.bool.injEq, V.int.injEq, true_and]
  grind [M.before_end]))
    · intro bg0f
      have g0f := bg0f
      try simp only [CS] at g0f
      try simp only [BS] at bg0f
      try exact absurd bg0f (by decide)
      all_goals (
  apply W_run
  · (simp only [go_sem, Try.ntmps25, bg0f]) <;> exact rfl
  apply W_nil
  apply K_seq
  apply T_if
  · (simp only [go_sem, Try.ntmps25, bg0f]) <;> exact rfl
  · intro bh2t
    exact absurd bh2t (by simp)
  · intro bh2f
    have h2f := bh2f
    try simp only [CS] at h2f
    try simp only [BS] at bh2f
    try exact absurd bh2f (by decide)
    all_goals (
  apply T_exit
  apply K_seqE
  apply K_lpE
  apply K_blkE
  apply K_seq
  apply T_seq
  apply T_r F
  · (simp only [go_sem, Try.ntmps25, bg0f, bh2f]) <;> exact rfl
  apply K_seq
  apply T_ret
  apply fin_ret
  · (simp only [go_sem, Try.ntmps25, bg0f, bh2f, Try.f25]) <;> exact rfl
  -- leaf 3 (ret)
  simp only [go_sem, Try.ntmps25, bg0f, bh2f, V.bool.injEq, V.int.injEq, true_and]
  grind [M.before_end]))

theorem ref_rank (t : Town) (h : Nat) (n : Int) (hh : h < t.houses.length) : Ret Try.prog 61 [.agg (cT t), .int .i64 (h : Int), .int .i64 n] (.int .i64 (M.rank t h n)) := by
  refine Ret.of_fits fun hfits => ?_
  simp only [V.fits, V.fitsL, V.fitsR, cT_fits] at hfits
  have hl := hfits.1.wishes _ (List.getElem_mem hh)
  apply Ret_fin (fn := Try.f61) Try.func61 rfl
  apply T_seq
  apply T_r F
  · (simp only [go_sem, Try.ntmps61, hh, rH_get hh]) <;> exact rfl
  apply K_seq
  apply T_seq
  apply T_r F
  · (simp only [go_sem, Try.ntmps61, hh, rH_get hh]) <;> exact rfl
  apply K_seq
  apply T_seq
  apply T_seq
  apply T_r F
  · (simp only [go_sem, Try.ntmps61, hh, rH_get hh]) <;> exact rfl
  apply K_seq
  apply T_block
  apply T_lp (α := Nat) [false, false, true, false, false, false, false, true, true, false, false, false, false, false, false, false, false, false, false, false, false, false, false, false, false, false, false, false, false, false, false, false, false, false, false, false] (fun k => (⟨[.undef, .undef, .int .i64 n, .undef, .undef, .undef, .undef, .ptr 1 0, .int .i64 (k : Int), .undef, .undef, .undef, .undef, .undef, .undef, .undef, .undef, .undef, .undef, .undef, .undef, .undef, .undef, .undef, .undef, .undef, .undef, .undef, .undef, .undef, .undef, .undef, .undef, .undef, .undef, .undef], [.box 28 (cT t), .box 40 [.int .i64 t.houses[h].lot, .sl 1 (rI t.houses[h].wishes), .bool t.houses[h].school]]⟩ : St)) (fun k => k ≤ t.houses[h].wishes.length ∧ ∀ j, j < k → (t.houses[h].wishes)[j]? ≠ some n) (fun k => t.houses[h].wishes.length - k) (0)
  · (simp only [go_sem, Try.ntmps61, hh, rH_get hh]) <;> exact rfl
  · simp
  · rintro k ⟨hk, hj⟩
    apply T_seq
    apply T_seq
    apply T_r F
    · (simp only [go_sem, Try.ntmps61, hh, rH_get hh]) <;> exact rfl
    apply K_seq
    apply T_if
    · (simp only [go_sem, Try.ntmps61, hh, rH_get hh]) <;> exact rfl
    · intro bh0t
      have h0t := bh0t
      try simp only [CS] at h0t
      try simp only [BS] at bh0t
      try exact absurd bh0t (by decide)
      all_goals (
  have hb : k < 9223372036854775807 := by omega
  apply T_skip
  apply K_seq
  apply T_seq
  apply T_block
  apply T_seq
  apply T_r F
  · (simp only [go_sem, Try.ntmps61, hh, rH_get hh, bh0t, h0t, rI_get h0t, hb]) <;> exact rfl
  apply K_seq
  apply T_if
  · (simp only [go_sem, Try.ntmps61, hh, rH_get hh, bh0t, h0t, rI_get h0t, hb]) <;> exact rfl
  · intro bh1t
    have h1t := bh1t
    try simp only [CS] at h1t
    try simp only [BS] at bh1t
    try exact absurd bh1t (by decide)
    all_goals (
  apply T_seq
  apply T_r F
  · (simp only [go_sem, Try.ntmps61, hh, rH_get hh, bh0t, h0t, rI_get h0t, hb, bh1t]) <;> exact rfl
  apply K_seq
  apply T_ret
  apply K_blkR
  apply K_seqR
  apply K_lpR
  apply K_blkR
  apply K_seqR
  apply fin_ret
  · (simp only [go_sem, Try.ntmps61, hh, rH_get hh, bh0t, h0t, rI_get h0t, hb, bh1t, Try.f61]) <;> exact rfl
  -- leaf 0 (ret)
  simp only [go_sem, Try.ntmps61, hh, rH_get hh, bh0t, h0t, rI_get h0t, hb, bh1t, V.bool.injEq, V.int.injEq, true_and]
  first | rw [M.rank_at hh h0t h1t hj] | (rw [M.rank_off hh (fun j hj1 => hj j (by omega))]; simp [*]))
  · intro bh1f
    have h1f := bh1f
    try simp only [CS] at h1f
    try simp only [BS] at bh1f
    try exact absurd bh1f (by decide)
    all_goals (
  apply T_skip
  apply K_blk
  apply K_seq
  apply T_r F
  · (simp only [go_sem, Try.ntmps61, hh, rH_get hh, bh0t, h0t, rI_get h0t, hb, bh1f]) <;> exact rfl
  refine K_lp (k + 1) ?_ ?_
  · (simp only [go_sem, Try.ntmps61, hh, rH_get hh, bh0t, h0t, rI_get h0t, hb, bh1f]) <;> exact rfl
  -- leaf 1 (loop0)
  grind))
    · intro bh0f
      have h0f := bh0f
      try simp only [CS] at h0f
      try simp only [BS] at bh0f
      try exact absurd bh0f (by decide)
      all_goals (
  apply T_exit
  apply K_seqE
  apply K_lpE
  apply K_blkE
  apply K_seq
  apply T_seq
  apply T_seq
  apply T_r F
  · (simp only [go_sem, Try.ntmps61, hh, rH_get hh, bh0f]) <;> exact rfl
  apply K_seq
  apply T_if
  · (simp only [go_sem, Try.ntmps61, hh, rH_get hh, bh0f]) <;> exact rfl
  · intro bh2t
    have h2t := bh2t
    try simp only [CS] at h2t
    try simp only [BS] at bh2t
    try exact absurd bh2t (by decide)
    all_goals (
  apply T_seq
  apply T_r F
  · (simp only [go_sem, Try.ntmps61, hh, rH_get hh, bh0f, bh2t]) <;> exact rfl
  apply K_seq
  apply T_ret
  apply K_seqR
  apply fin_ret
  · (simp only [go_sem, Try.ntmps61, hh, rH_get hh, bh0f, bh2t, Try.f61]) <;> exact rfl
  -- leaf 2 (ret)
  simp only [go_sem, Try.ntmps61, hh, rH_get hh, bh0f, bh2t, V.bool.injEq, V.int.injEq, true_and]
  first | rw [M.rank_at hh h0t h1t hj] | (rw [M.rank_off hh (fun j hj1 => hj j (by omega))]; simp [*]))
  · intro bh2f
    have h2f := bh2f
    try simp only [CS] at h2f
    try simp only [BS] at bh2f
    try exact absurd bh2f (by decide)
    all_goals (
  apply T_skip
  apply K_seq
  apply T_seq
  apply T_r F
  · (simp only [go_sem, Try.ntmps61, hh, rH_get hh, bh0f, bh2f]) <;> exact rfl
  apply K_seq
  apply T_ret
  apply fin_ret
  · (simp only [go_sem, Try.ntmps61, hh, rH_get hh, bh0f, bh2f, Try.f61]) <;> exact rfl
  -- leaf 3 (ret)
  simp only [go_sem, Try.ntmps61, hh, rH_get hh, bh0f, bh2f, V.bool.injEq, V.int.injEq, true_and]
  first | rw [M.rank_at hh h0t h1t hj] | (rw [M.rank_off hh (fun j hj1 => hj j (by omega))]; simp [*])))

theorem ref_taught (t : Town) (n : Int) (ok : M.Ok t) (hn : M.lot t n = true) : Ret Try.prog 68 [.agg (cT t), .int .i64 n] (.bool (M.taught t n)) := by
  refine Ret.of_fits fun hfits => ?_
  simp only [V.fits, V.fitsL, V.fitsR, cT_fits] at hfits
  have hl := hfits.1.schools
  have hn1 := M.lot_iff.1 hn
  apply Ret_fin (fn := Try.f68) Try.func68 rfl
  apply T_seq
  apply T_r F
  · (simp only [go_sem, Try.ntmps68]) <;> exact rfl
  apply K_seq
  apply T_seq
  apply T_seq
  apply T_r F
  · (simp only [go_sem, Try.ntmps68]) <;> exact rfl
  apply K_seq
  apply T_block
  apply T_lp (α := Nat) [false, true, true, false, false, true, false, false, false, false, false, false, false, false, false, false, false, false, false, false, false] (fun k => (⟨[.undef, .int .i64 n, .ptr 0 0, .undef, .undef, .int .i64 (k : Int), .undef, .undef, .undef, .undef, .undef, .undef, .undef, .undef, .undef, .undef, .undef, .undef, .undef, .undef, .undef], [.box 28 (cT t)]⟩ : St)) (fun k => k ≤ t.schools.length ∧ (t.schools.drop k).any (fun s => M.near t s n) = M.taught t n) (fun k => t.schools.length - k) (0)
  · (simp only [go_sem, Try.ntmps68]) <;> exact rfl
  · simp [M.taught]
  · rintro k ⟨hk, hj⟩
    apply T_seq
    apply T_seq
    apply T_r F
    · (simp only [go_sem, Try.ntmps68]) <;> exact rfl
    apply K_seq
    apply T_if
    · (simp only [go_sem, Try.ntmps68]) <;> exact rfl
    · intro bh0t
      have h0t := bh0t
      try simp only [CS] at h0t
      try simp only [BS] at bh0t
      try exact absurd bh0t (by decide)
      all_goals (
  have hb : k < 9223372036854775807 := by omega
  have hd := List.drop_eq_getElem_cons h0t
  have hs1 := M.lot_iff.1 (ok.school (List.getElem_mem h0t))
  have hs2 : (t.schools[k]).toNat < t.walk.length := by omega
  have hs3 : n.toNat < (t.walk[(t.schools[k]).toNat]).length := by rw [ok.square hs2]; omega
  apply T_skip
  apply K_seq
  apply T_seq
  apply T_block
  apply T_seq
  apply T_qL F [0, 1, 2, 3, 4, 5, 6, 7] rfl (by kernel_rfl)
  apply Q_pre [0, 1, 2, 3] [4, 5, 6, 7]
  · (simp only [go_sem, Try.ntmps68, bh0t, h0t, rI_get h0t, hb]) <;> exact rfl
  apply Q_pre [4, 5, 6] [7]
  · (simp only [go_sem, Try.ntmps68, bh0t, h0t, rI_get h0t, hb]) <;> exact rfl
  apply Q_call -- call 0 of function 69
  · (simp only [go_sem, Try.ntmps68, bh0t, h0t, rI_get h0t, hb]) <;> exact rfl
  · (simp only [go_sem, Try.ntmps68, bh0t, h0t, rI_get h0t, hb]) <;> exact rfl
  · exact rfl
  · (simp only [go_sem, Try.ntmps68, bh0t, h0t, rI_get h0t, hb]) <;> exact rfl
  · (simp only [go_sem, Try.ntmps68, bh0t, h0t, rI_get h0t, hb]) <;> exact rfl
  · exact ⟨_, Try.func69, rfl, rfl⟩
  · (simp only [go_sem, Try.ntmps68, bh0t, h0t, rI_get h0t, hb]) <;> exact rfl
  · exact ref_near _ _ _ (by first | assumption | omega) (by first | assumption | omega) (by first | assumption | omega) (by first | assumption | omega)
  apply Q_run
  · (simp only [go_sem, Try.ntmps68, bh0t, h0t, rI_get h0t, hb]) <;> exact rfl
  apply Q_nil
  apply K_seq
  apply T_if
  · (simp only [go_sem, Try.ntmps68, bh0t, h0t, rI_get h0t, hb]) <;> exact rfl
  · intro bh1t
    have h1t := bh1t
    try simp only [CS] at h1t
    try simp only [BS] at bh1t
    try exact absurd bh1t (by decide)
    all_goals (
  apply T_seq
  apply T_r F
  · (simp only [go_sem, Try.ntmps68, bh0t, h0t, rI_get h0t, hb, bh1t]) <;> exact rfl
  apply K_seq
  apply T_ret
  apply K_blkR
  apply K_seqR
  apply K_lpR
  apply K_blkR
  apply K_seqR
  apply fin_ret
  · (simp only [go_sem, Try.ntmps68, bh0t, h0t, rI_get h0t, hb, bh1t, Try.f68]) <;> exact rfl
  -- leaf 0 (ret)
  simp only [go_sem, Try.ntmps68, bh0t, h0t, rI_get h0t, hb, bh1t, V.bool.injEq, V.int.injEq, true_and]
  grind)
  · intro bh1f
    have h1f := bh1f
    try simp only [CS] at h1f
    try simp only [BS] at bh1f
    try exact absurd bh1f (by decide)
    all_goals (
  apply T_skip
  apply K_blk
  apply K_seq
  apply T_r F
  · (simp only [go_sem, Try.ntmps68, bh0t, h0t, rI_get h0t, hb, bh1f]) <;> exact rfl
  refine K_lp (k + 1) ?_ ?_
  · (simp only [go_sem, Try.ntmps68, bh0t, h0t, rI_get h0t, hb, bh1f]) <;> exact rfl
  -- leaf 1 (loop0)
  grind))
    · intro bh0f
      have h0f := bh0f
      try simp only [CS] at h0f
      try simp only [BS] at bh0f
      try exact absurd bh0f (by decide)
      all_goals (
  apply T_exit
  apply K_seqE
  apply K_lpE
  apply K_blkE
  apply K_seq
  apply T_seq
  apply T_r F
  · (simp only [go_sem, Try.ntmps68, bh0f]) <;> exact rfl
  apply K_seq
  apply T_ret
  apply fin_ret
  · (simp only [go_sem, Try.ntmps68, bh0f, Try.f68]) <;> exact rfl
  -- leaf 2 (ret)
  simp only [go_sem, Try.ntmps68, bh0f, V.bool.injEq, V.int.injEq, true_and]
  grind)

theorem ref_ranks (t : Town) (p : List Int) (hp : p.length ≤ t.houses.length) (hh : p.length ≤ 1000) : Ret Try.prog 31 [.agg (cT t), .sl 1 (rI p)] (.sl 1 (rI (M.ranks t p))) := by
  apply Ret_fin (fn := Try.f31) Try.func31 rfl
  apply T_seq
  apply T_r F
  · (simp only [go_sem, Try.ntmps31]) <;> exact rfl
  apply K_seq
  apply T_seq
  apply T_r F
  · (simp only [go_sem, Try.ntmps31]) <;> exact rfl
  apply K_seq
  apply T_seq
  apply T_seq
  apply T_r F
  · (simp only [go_sem, Try.ntmps31]) <;> exact rfl
  apply K_seq
  apply T_block
  apply T_ghost (d := 5) (T := 3) (sz := 1)
  · (simp only [go_sem, Try.ntmps31]) <;> exact rfl
  apply T_lp (α := Nat) [false, true, true, false, false, true, true, false, false, false, false, false, false, false, false, false, false, false, false, false, false, false, false, false] (fun k => (⟨[.undef, .sl 1 (rI p), .ptr 0 0, .undef, .undef, .arr 1 k, .int .i64 (k : Int), .undef, .undef, .undef, .undef, .undef, .undef, .undef, .undef, .undef, .undef, .undef, .undef, .undef, .undef, .undef, .undef, .undef], [.box 28 (cT t), .arr 3 1 (rI ((M.ranks t p).take k)) false]⟩ : St)) (fun k => k ≤ p.length) (fun k => p.length - k) (0)
  · (simp only [go_sem, Try.ntmps31]) <;> exact rfl
  · omega
  · rintro k hk
    have hlen : ((M.ranks t p).take k).length = k := by simp [M.ranks_length]; omega
    apply T_seq
    apply T_seq
    apply T_r F
    · (simp only [go_sem, Try.ntmps31, hlen]) <;> exact rfl
    apply K_seq
    apply T_if
    · (simp only [go_sem, Try.ntmps31, hlen]) <;> exact rfl
    · intro bh0t
      have h0t := bh0t
      try simp only [CS] at h0t
      try simp only [BS] at bh0t
      try exact absurd bh0t (by decide)
      all_goals (
  have hb : k < 9223372036854775807 := by omega
  have hcap : (k + 1) * 8 ≤ 140737488355328 := by omega
  have hr := M.ranks_step t p h0t
  apply T_skip
  apply K_seq
  apply T_seq
  apply T_block
  apply T_dL F [none, none, none, none, none, none, none, none, none, some (1, false), none] [[], [1], [1], [1], [1], [1], [1], [], [], [], []] [0, 1, 2, 3, 4, 5, 6, 7, 8, 9, 10] rfl (by kernel_rfl)
  apply D_pre [0, 1, 2, 3] [4, 5, 6, 7, 8, 9, 10]
  · (simp only [go_sem, Try.ntmps31, hlen, bh0t, h0t, rI_get h0t, hb, hr, hcap]) <;> exact rfl
  apply D_pre [4, 5, 6] [7, 8, 9, 10]
  · (simp only [go_sem, Try.ntmps31, hlen, bh0t, h0t, rI_get h0t, hb, hr, hcap]) <;> exact rfl
  apply D_call -- call 0 of function 61
  · (simp only [go_sem, Try.ntmps31, hlen, bh0t, h0t, rI_get h0t, hb, hr, hcap]) <;> exact rfl
  · (simp only [go_sem, Try.ntmps31, hlen, bh0t, h0t, rI_get h0t, hb, hr, hcap]) <;> exact rfl
  · exact rfl
  · (simp only [go_sem, Try.ntmps31, hlen, bh0t, h0t, rI_get h0t, hb, hr, hcap]) <;> exact rfl
  · (simp only [go_sem, Try.ntmps31, hlen, bh0t, h0t, rI_get h0t, hb, hr, hcap]) <;> exact rfl
  · exact ⟨_, Try.func61, rfl, rfl⟩
  · (simp only [go_sem, Try.ntmps31, hlen, bh0t, h0t, rI_get h0t, hb, hr, hcap]) <;> exact rfl
  · (simp only [go_sem, Try.ntmps31, hlen, bh0t, h0t, rI_get h0t, hb, hr, hcap]) <;> exact rfl
  · exact ref_rank _ _ _ (by omega)
  apply D_run
  · (simp only [go_sem, Try.ntmps31, hlen, bh0t, h0t, rI_get h0t, hb, hr, hcap]) <;> exact rfl
  apply D_nil
  apply K_blk
  apply K_seq
  apply T_r F
  · (simp only [go_sem, Try.ntmps31, hlen, bh0t, h0t, rI_get h0t, hb, hr, hcap]) <;> exact rfl
  refine K_lp (k + 1) ?_ ?_
  · (simp only [go_sem, Try.ntmps31, hlen, bh0t, h0t, rI_get h0t, hb, hr, hcap]) <;> exact rfl
  -- leaf 0 (loop0)
  grind)
    · intro bh0f
      have h0f := bh0f
      try simp only [CS] at h0f
      try simp only [BS] at bh0f
      try exact absurd bh0f (by decide)
      all_goals (
  apply T_exit
  apply K_seqE
  apply K_lpE
  apply K_blkE
  apply K_seq
  apply T_seq
  apply T_r F
  · (simp only [go_sem, Try.ntmps31, hlen, bh0f]) <;> exact rfl
  apply K_seq
  apply T_ret
  apply fin_ret
  · (simp only [go_sem, Try.ntmps31, hlen, bh0f, Try.f31]) <;> exact rfl
  -- leaf 1 (ret)
  simp only [go_sem, Try.ntmps31, hlen, bh0f, V.bool.injEq, V.int.injEq, true_and]
  rw [M.ranks_all t p (by omega)])

end Go.Ab
namespace Go.Ab
open Go Go.RowKit Go.Proofs Fac
set_option linter.unusedVariables false
set_option linter.unusedSimpArgs false
set_option maxRecDepth 4000
set_option maxHeartbeats 1000000

theorem ref_walks (t : Town) : Ret Try.prog 41 [.agg (cT t)] (.bool (decide (M.Walks t))) := by
  refine Ret.of_fits fun hfits => ?_
  simp only [V.fits, V.fitsL, V.fitsR, cT_fits] at hfits
  have hl := hfits.1.walk
  apply Ret_fin (fn := Try.f41) Try.func41 rfl
  apply T_seq
  apply T_r F
  · (simp only [go_sem, Try.ntmps41]) <;> exact rfl
  apply K_seq
  apply T_seq
  apply T_seq
  apply T_r F
  · (simp only [go_sem, Try.ntmps41]) <;> exact rfl
  apply K_seq
  apply T_block
  apply T_lp (α := Nat) [false, true, false, true, false, false, false, false, false, false, false, false, false, false, false, false, false, false, false, false, false, false, false, false, false, false, false, false, false, false, false, false, false, false, false, false, false, false, false, false, false, false, false, false, false, false, false, false, false, false, false, false, false, false, false, false, false, false, false, false, false, false, false, false, false, false, false, false, false, false, false, false, false, false, false, false, false, false, false, false, false, false, false, false, false, false] (fun k => (⟨[.undef, .ptr 0 0, .undef, .int .i64 (k : Int), .undef, .undef, .undef, .undef, .undef, .undef, .undef, .undef, .undef, .undef, .undef, .undef, .undef, .undef, .undef, .undef, .undef, .undef, .undef, .undef, .undef, .undef, .undef, .undef, .undef, .undef, .undef, .undef, .undef, .undef, .undef, .undef, .undef, .undef, .undef, .undef, .undef, .undef, .undef, .undef, .undef, .undef, .undef, .undef, .undef, .undef, .undef, .undef, .undef, .undef, .undef, .undef, .undef, .undef, .undef, .undef, .undef, .undef, .undef, .undef, .undef, .undef, .undef, .undef, .undef, .undef, .undef, .undef, .undef, .undef, .undef, .undef, .undef, .undef, .undef, .undef, .undef, .undef, .undef, .undef, .undef, .undef], [.box 28 (cT t)]⟩ : St)) (fun k => k ≤ t.walk.length ∧ ∀ j, j < k → (M.row t j).length = t.walk.length) (fun k => t.walk.length - k) (0)
  · (simp only [go_sem, Try.ntmps41]) <;> exact rfl
  · simp
  · rintro k ⟨hk, hj⟩
    apply T_seq
    apply T_seq
    apply T_r F
    · (simp only [go_sem, Try.ntmps41]) <;> exact rfl
    apply K_seq
    apply T_if
    · (simp only [go_sem, Try.ntmps41]) <;> exact rfl
    · intro bh0t
      have h0t := bh0t
      try simp only [CS] at h0t
      try simp only [BS] at bh0t
      try exact absurd bh0t (by decide)
      all_goals (
  have hb : k < 9223372036854775807 := by omega
  have hrw := M.row_get h0t
  apply T_skip
  apply K_seq
  apply T_seq
  apply T_block
  apply T_seq
  apply T_qL F [0, 1, 2, 3, 4, 5, 6, 7, 8, 9] rfl (by kernel_rfl)
  apply Q_pre [0, 1, 2, 3] [4, 5, 6, 7, 8, 9]
  · (simp only [go_sem, Try.ntmps41, bh0t, h0t, rL_get h0t, hb]) <;> exact rfl
  apply Q_run
  · (simp only [go_sem, Try.ntmps41, bh0t, h0t, rL_get h0t, hb]) <;> exact rfl
  apply Q_nil
  apply K_seq
  apply T_if
  · (simp only [go_sem, Try.ntmps41, bh0t, h0t, rL_get h0t, hb]) <;> exact rfl
  · intro bh1t
    have h1t := bh1t
    try simp only [CS] at h1t
    try simp only [BS] at bh1t
    try exact absurd bh1t (by decide)
    all_goals (
  have hnw : ¬ M.Walks t := fun w => by have := w.1 k h0t; rw [hrw] at this; omega
  apply T_seq
  apply T_r F
  · (simp only [go_sem, Try.ntmps41, bh0t, h0t, rL_get h0t, hb, bh1t]) <;> exact rfl
  apply K_seq
  apply T_ret
  apply K_blkR
  apply K_seqR
  apply K_lpR
  apply K_blkR
  apply K_seqR
  apply fin_ret
  · (simp only [go_sem, Try.ntmps41, bh0t, h0t, rL_get h0t, hb, bh1t, Try.f41]) <;> exact rfl
  -- leaf 0 (ret)
  simp only [go_sem, Try.ntmps41, bh0t, h0t, rL_get h0t, hb, bh1t, V.bool.injEq, V.int.injEq, true_and]
  grind [M.Walks])
  · intro bh1f
    have h1f := bh1f
    try simp only [CS] at h1f
    try simp only [BS] at bh1f
    try exact absurd bh1f (by decide)
    all_goals (
  apply T_skip
  apply K_blk
  apply K_seq
  apply T_r F
  · (simp only [go_sem, Try.ntmps41, bh0t, h0t, rL_get h0t, hb, bh1f]) <;> exact rfl
  refine K_lp (k + 1) ?_ ?_
  · (simp only [go_sem, Try.ntmps41, bh0t, h0t, rL_get h0t, hb, bh1f]) <;> exact rfl
  -- leaf 1 (loop0)
  grind))
    · intro bh0f
      have h0f := bh0f
      try simp only [CS] at h0f
      try simp only [BS] at bh0f
      try exact absurd bh0f (by decide)
      all_goals (
  have hrow : ∀ a (h : a < t.walk.length), (t.walk[a]).length = t.walk.length := fun a h => by rw [← M.row_get h]; exact hj a (by omega)
  apply T_exit
  apply K_seqE
  apply K_lpE
  apply K_blkE
  apply K_seq
  apply T_seq
  apply T_seq
  apply T_r F
  · (simp only [go_sem, Try.ntmps41, bh0f]) <;> exact rfl
  apply K_seq
  apply T_block
  apply T_lp (α := Nat) [false, true, false, false, true, false, false, false, false, false, false, false, false, false, false, false, false, false, false, false, false, false, false, false, false, false, false, false, false, false, false, false, false, false, false, false, false, false, false, false, false, false, false, false, false, false, false, false, false, false, false, false, false, false, false, false, false, false, false, false, false, false, false, false, false, false, false, false, false, false, false, false, false, false, false, false, false, false, false, false, false, false, false, false, false, false] (fun i => (⟨[.undef, .ptr 0 0, .undef, .undef, .int .i64 (i : Int), .undef, .undef, .undef, .undef, .undef, .undef, .undef, .undef, .undef, .undef, .undef, .undef, .undef, .undef, .undef, .undef, .undef, .undef, .undef, .undef, .undef, .undef, .undef, .undef, .undef, .undef, .undef, .undef, .undef, .undef, .undef, .undef, .undef, .undef, .undef, .undef, .undef, .undef, .undef, .undef, .undef, .undef, .undef, .undef, .undef, .undef, .undef, .undef, .undef, .undef, .undef, .undef, .undef, .undef, .undef, .undef, .undef, .undef, .undef, .undef, .undef, .undef, .undef, .undef, .undef, .undef, .undef, .undef, .undef, .undef, .undef, .undef, .undef, .undef, .undef, .undef, .undef, .undef, .undef, .undef, .undef], [.box 28 (cT t)]⟩ : St)) (fun i => i ≤ t.walk.length ∧ ∀ a, a < i → ∀ b, b < t.walk.length → M.Cell t a b) (fun i => t.walk.length - i) (0)
  · (simp only [go_sem, Try.ntmps41, bh0f]) <;> exact rfl
  · simp
  · rintro i ⟨hi, hia⟩
    apply T_seq
    apply T_seq
    apply T_r F
    · (simp only [go_sem, Try.ntmps41, bh0f]) <;> exact rfl
    apply K_seq
    apply T_if
    · (simp only [go_sem, Try.ntmps41, bh0f]) <;> exact rfl
    · intro bh2t
      have h2t := bh2t
      try simp only [CS] at h2t
      try simp only [BS] at bh2t
      try exact absurd bh2t (by decide)
      all_goals (
  have hbi : i < 9223372036854775807 := by omega
  apply T_skip
  apply K_seq
  apply T_seq
  apply T_block
  apply T_seq
  apply T_r F
  · (simp only [go_sem, Try.ntmps41, bh0f, bh2t, h2t, rL_get h2t, hbi]) <;> exact rfl
  apply K_seq
  apply T_block
  apply T_lp (α := Nat) [false, true, false, false, true, true, false, false, false, false, false, false, false, false, false, false, false, false, false, false, false, false, false, false, false, false, false, false, false, false, false, false, false, false, false, false, false, false, false, false, false, false, false, false, false, false, false, false, false, false, false, false, false, false, false, false, false, false, false, false, false, false, false, false, false, false, false, false, false, false, false, false, false, false, false, false, false, false, false, false, false, false, false, false, false, false] (fun j => (⟨[.undef, .ptr 0 0, .undef, .undef, .int .i64 (i : Int), .int .i64 (j : Int), .undef, .undef, .undef, .undef, .undef, .undef, .undef, .undef, .undef, .undef, .undef, .undef, .undef, .undef, .undef, .undef, .undef, .undef, .undef, .undef, .undef, .undef, .undef, .undef, .undef, .undef, .undef, .undef, .undef, .undef, .undef, .undef, .undef, .undef, .undef, .undef, .undef, .undef, .undef, .undef, .undef, .undef, .undef, .undef, .undef, .undef, .undef, .undef, .undef, .undef, .undef, .undef, .undef, .undef, .undef, .undef, .undef, .undef, .undef, .undef, .undef, .undef, .undef, .undef, .undef, .undef, .undef, .undef, .undef, .undef, .undef, .undef, .undef, .undef, .undef, .undef, .undef, .undef, .undef, .undef], [.box 28 (cT t)]⟩ : St)) (fun j => j ≤ t.walk.length ∧ ∀ b, b < j → M.Cell t i b) (fun j => t.walk.length - j) (0)
  · (simp only [go_sem, Try.ntmps41, bh0f, bh2t, h2t, rL_get h2t, hbi]) <;> exact rfl
  · simp
  · rintro j ⟨hjj, hjb⟩
    apply T_seq
    apply T_seq
    apply T_r F
    · (simp only [go_sem, Try.ntmps41, bh0f, bh2t, h2t, rL_get h2t, hbi]) <;> exact rfl
    apply K_seq
    apply T_if
    · (simp only [go_sem, Try.ntmps41, bh0f, bh2t, h2t, rL_get h2t, hbi]) <;> exact rfl
    · intro bh3t
      have h3t := bh3t
      try simp only [CS] at h3t
      try simp only [BS] at bh3t
      try exact absurd bh3t (by decide)
      all_goals (
  have hbj : j < 9223372036854775807 := by omega
  have r1 : j < (t.walk[i]).length := by rw [hrow]; omega
  have r2 : i < (t.walk[j]).length := by rw [hrow]; omega
  have d1 := M.dist_nat h2t r1
  have d2 := M.dist_nat h3t r2
  have hcell : M.Walks t → M.Cell t i j := fun w => w.2.1 i h2t j h3t
  have hc := M.Cell.eq_1 t i j
  rw [d1, d2] at hc
  apply T_skip
  apply K_seq
  apply T_seq
  apply T_block
  apply T_seq
  apply T_qL F [0, 1, 2, 3, 4, 5, 6, 7, 8, 9, 10, 11, 12, 13, 14, 15, 16, 17, 18, 19, 20, 21, 22, 23, 24, 25, 26, 27, 28, 29, 30, 31, 32, 33, 34, 35, 36, 37, 38, 39, 40, 41, 42, 43, 44] rfl (by kernel_rfl)
  apply Q_pre [0, 1, 2, 3] [4, 5, 6, 7, 8, 9, 10, 11, 12, 13, 14, 15, 16, 17, 18, 19, 20, 21, 22, 23, 24, 25, 26, 27, 28, 29, 30, 31, 32, 33, 34, 35, 36, 37, 38, 39, 40, 41, 42, 43, 44]
  · (simp only [go_sem, Try.ntmps41, bh0f, bh2t, h2t, rL_get h2t, hbi, bh3t, h3t, rL_get h3t, hbj, rI_get r1, rI_get r2]) <;> exact rfl
  apply Q_pre [4, 5, 6, 7] [8, 9, 10, 11, 12, 13, 14, 15, 16, 17, 18, 19, 20, 21, 22, 23, 24, 25, 26, 27, 28, 29, 30, 31, 32, 33, 34, 35, 36, 37, 38, 39, 40, 41, 42, 43, 44]
  · (simp only [go_sem, Try.ntmps41, bh0f, bh2t, h2t, rL_get h2t, hbi, bh3t, h3t, rL_get h3t, hbj, rI_get r1, rI_get r2]) <;> exact rfl
  apply Q_call -- call 0 of function 43
  · (simp only [go_sem, Try.ntmps41, bh0f, bh2t, h2t, rL_get h2t, hbi, bh3t, h3t, rL_get h3t, hbj, rI_get r1, rI_get r2]) <;> exact rfl
  · (simp only [go_sem, Try.ntmps41, bh0f, bh2t, h2t, rL_get h2t, hbi, bh3t, h3t, rL_get h3t, hbj, rI_get r1, rI_get r2]) <;> exact rfl
  · exact rfl
  · (simp only [go_sem, Try.ntmps41, bh0f, bh2t, h2t, rL_get h2t, hbi, bh3t, h3t, rL_get h3t, hbj, rI_get r1, rI_get r2]) <;> exact rfl
  · (simp only [go_sem, Try.ntmps41, bh0f, bh2t, h2t, rL_get h2t, hbi, bh3t, h3t, rL_get h3t, hbj, rI_get r1, rI_get r2]) <;> exact rfl
  · exact ⟨_, Try.func43, rfl, rfl⟩
  · (simp only [go_sem, Try.ntmps41, bh0f, bh2t, h2t, rL_get h2t, hbi, bh3t, h3t, rL_get h3t, hbj, rI_get r1, rI_get r2]) <;> exact rfl
  · exact ref_in _ _ _
  apply Q_pre [9, 10] [11, 12, 13, 14, 15, 16, 17, 18, 19, 20, 21, 22, 23, 24, 25, 26, 27, 28, 29, 30, 31, 32, 33, 34, 35, 36, 37, 38, 39, 40, 41, 42, 43, 44]
  · (simp only [go_sem, Try.ntmps41, bh0f, bh2t, h2t, rL_get h2t, hbi, bh3t, h3t, rL_get h3t, hbj, rI_get r1, rI_get r2]) <;> exact rfl
  apply Q_guard
  · (simp only [go_sem, Try.ntmps41, bh0f, bh2t, h2t, rL_get h2t, hbi, bh3t, h3t, rL_get h3t, hbj, rI_get r1, rI_get r2]) <;> exact rfl
  · (simp only [go_sem, Try.ntmps41, bh0f, bh2t, h2t, rL_get h2t, hbi, bh3t, h3t, rL_get h3t, hbj, rI_get r1, rI_get r2]) <;> exact rfl
  · intro bg0t
    have g0t := bg0t
    try simp only [CS] at g0t
    try simp only [BS] at bg0t
    try exact absurd bg0t (by decide)
    all_goals (
  apply Q_pre [11, 12, 13, 14] [15, 16, 17, 18, 19, 20, 21, 22, 23, 24, 25, 26, 27, 28, 29, 30, 31, 32, 33, 34, 35, 36, 37, 38, 39, 40, 41, 42, 43, 44]
  · (simp only [go_sem, Try.ntmps41, bh0f, bh2t, h2t, rL_get h2t, hbi, bh3t, h3t, rL_get h3t, hbj, rI_get r1, rI_get r2, bg0t]) <;> exact rfl
  apply Q_guard
  · (simp only [go_sem, Try.ntmps41, bh0f, bh2t, h2t, rL_get h2t, hbi, bh3t, h3t, rL_get h3t, hbj, rI_get r1, rI_get r2, bg0t]) <;> exact rfl
  · (simp only [go_sem, Try.ntmps41, bh0f, bh2t, h2t, rL_get h2t, hbi, bh3t, h3t, rL_get h3t, hbj, rI_get r1, rI_get r2, bg0t]) <;> exact rfl
  · intro bg1t
    have g1t := bg1t
    try simp only [CS] at g1t
    try simp only [BS] at bg1t
    try exact absurd bg1t (by decide)
    all_goals (
  apply Q_pre [15, 16, 17, 18] [19, 20, 21, 22, 23, 24, 25, 26, 27, 28, 29, 30, 31, 32, 33, 34, 35, 36, 37, 38, 39, 40, 41, 42, 43, 44]
  · (simp only [go_sem, Try.ntmps41, bh0f, bh2t, h2t, rL_get h2t, hbi, bh3t, h3t, rL_get h3t, hbj, rI_get r1, rI_get r2, bg0t, bg1t]) <;> exact rfl
  apply Q_pre [19, 20, 21, 22] [23, 24, 25, 26, 27, 28, 29, 30, 31, 32, 33, 34, 35, 36, 37, 38, 39, 40, 41, 42, 43, 44]
  · (simp only [go_sem, Try.ntmps41, bh0f, bh2t, h2t, rL_get h2t, hbi, bh3t, h3t, rL_get h3t, hbj, rI_get r1, rI_get r2, bg0t, bg1t]) <;> exact rfl
  apply Q_pre [23, 24, 25, 26] [27, 28, 29, 30, 31, 32, 33, 34, 35, 36, 37, 38, 39, 40, 41, 42, 43, 44]
  · (simp only [go_sem, Try.ntmps41, bh0f, bh2t, h2t, rL_get h2t, hbi, bh3t, h3t, rL_get h3t, hbj, rI_get r1, rI_get r2, bg0t, bg1t]) <;> exact rfl
  apply Q_guard
  · (simp only [go_sem, Try.ntmps41, bh0f, bh2t, h2t, rL_get h2t, hbi, bh3t, h3t, rL_get h3t, hbj, rI_get r1, rI_get r2, bg0t, bg1t]) <;> exact rfl
  · (simp only [go_sem, Try.ntmps41, bh0f, bh2t, h2t, rL_get h2t, hbi, bh3t, h3t, rL_get h3t, hbj, rI_get r1, rI_get r2, bg0t, bg1t]) <;> exact rfl
  · intro bg2t
    have g2t := bg2t
    try simp only [CS] at g2t
    try simp only [BS] at bg2t
    try exact absurd bg2t (by decide)
    all_goals (
  apply Q_pre [27, 28, 29, 30] [31, 32, 33, 34, 35, 36, 37, 38, 39, 40, 41, 42, 43, 44]
  · (simp only [go_sem, Try.ntmps41, bh0f, bh2t, h2t, rL_get h2t, hbi, bh3t, h3t, rL_get h3t, hbj, rI_get r1, rI_get r2, bg0t, bg1t, bg2t]) <;> exact rfl
  apply Q_pre [31, 32, 33, 34] [35, 36, 37, 38, 39, 40, 41, 42, 43, 44]
  · (simp only [go_sem, Try.ntmps41, bh0f, bh2t, h2t, rL_get h2t, hbi, bh3t, h3t, rL_get h3t, hbj, rI_get r1, rI_get r2, bg0t, bg1t, bg2t]) <;> exact rfl
  apply Q_pre [35, 36, 37, 38] [39, 40, 41, 42, 43, 44]
  · (simp only [go_sem, Try.ntmps41, bh0f, bh2t, h2t, rL_get h2t, hbi, bh3t, h3t, rL_get h3t, hbj, rI_get r1, rI_get r2, bg0t, bg1t, bg2t]) <;> exact rfl
  apply Q_run
  · (simp only [go_sem, Try.ntmps41, bh0f, bh2t, h2t, rL_get h2t, hbi, bh3t, h3t, rL_get h3t, hbj, rI_get r1, rI_get r2, bg0t, bg1t, bg2t]) <;> exact rfl
  apply Q_nil
  apply K_seq
  apply T_if
  · (simp only [go_sem, Try.ntmps41, bh0f, bh2t, h2t, rL_get h2t, hbi, bh3t, h3t, rL_get h3t, hbj, rI_get r1, rI_get r2, bg0t, bg1t, bg2t]) <;> exact rfl
  · intro bh4t
    have h4t := bh4t
    try simp only [CS] at h4t
    try simp only [BS] at bh4t
    try exact absurd bh4t (by decide)
    all_goals (
  apply T_seq
  apply T_r F
  · (simp only [go_sem, Try.ntmps41, bh0f, bh2t, h2t, rL_get h2t, hbi, bh3t, h3t, rL_get h3t, hbj, rI_get r1, rI_get r2, bg0t, bg1t, bg2t, bh4t]) <;> exact rfl
  apply K_seq
  apply T_ret
  apply K_blkR
  apply K_seqR
  apply K_lpR
  apply K_blkR
  apply K_blkR
  apply K_seqR
  apply K_lpR
  apply K_blkR
  apply K_seqR
  apply fin_ret
  · (simp only [go_sem, Try.ntmps41, bh0f, bh2t, h2t, rL_get h2t, hbi, bh3t, h3t, rL_get h3t, hbj, rI_get r1, rI_get r2, bg0t, bg1t, bg2t, bh4t, Try.f41]) <;> exact rfl
  -- leaf 2 (ret)
  simp only [go_sem, Try.ntmps41, bh0f, bh2t, h2t, rL_get h2t, hbi, bh3t, h3t, rL_get h3t, hbj, rI_get r1, rI_get r2, bg0t, bg1t, bg2t, bh4t, V.bool.injEq, V.int.injEq, true_and]
  grind [M.Walks])
  · intro bh4f
    have h4f := bh4f
    try simp only [CS] at h4f
    try simp only [BS] at bh4f
    try exact absurd bh4f (by decide)
    all_goals (
  apply T_skip
  apply K_blk
  apply K_seq
  apply T_r F
  · (simp only [go_sem, Try.ntmps41, bh0f, bh2t, h2t, rL_get h2t, hbi, bh3t, h3t, rL_get h3t, hbj, rI_get r1, rI_get r2, bg0t, bg1t, bg2t, bh4f]) <;> exact rfl
  refine K_lp (j + 1) ?_ ?_
  · (simp only [go_sem, Try.ntmps41, bh0f, bh2t, h2t, rL_get h2t, hbi, bh3t, h3t, rL_get h3t, hbj, rI_get r1, rI_get r2, bg0t, bg1t, bg2t, bh4f]) <;> exact rfl
  -- leaf 3 (loop2)
  grind))
  · intro bg2f
    have g2f := bg2f
    try simp only [CS] at g2f
    try simp only [BS] at bg2f
    try exact absurd bg2f (by decide)
    all_goals (
  apply Q_pre [27, 28, 29, 30] [31, 32, 33, 34, 35, 36, 37, 38, 39, 40, 41, 42, 43, 44]
  · (simp only [go_sem, Try.ntmps41, bh0f, bh2t, h2t, rL_get h2t, hbi, bh3t, h3t, rL_get h3t, hbj, rI_get r1, rI_get r2, bg0t, bg1t, bg2f]) <;> exact rfl
  apply Q_pre [31, 32, 33, 34] [35, 36, 37, 38, 39, 40, 41, 42, 43, 44]
  · (simp only [go_sem, Try.ntmps41, bh0f, bh2t, h2t, rL_get h2t, hbi, bh3t, h3t, rL_get h3t, hbj, rI_get r1, rI_get r2, bg0t, bg1t, bg2f]) <;> exact rfl
  apply Q_pre [35, 36, 37, 38] [39, 40, 41, 42, 43, 44]
  · (simp only [go_sem, Try.ntmps41, bh0f, bh2t, h2t, rL_get h2t, hbi, bh3t, h3t, rL_get h3t, hbj, rI_get r1, rI_get r2, bg0t, bg1t, bg2f]) <;> exact rfl
  apply Q_run
  · (simp only [go_sem, Try.ntmps41, bh0f, bh2t, h2t, rL_get h2t, hbi, bh3t, h3t, rL_get h3t, hbj, rI_get r1, rI_get r2, bg0t, bg1t, bg2f]) <;> exact rfl
  apply Q_nil
  apply K_seq
  apply T_if
  · (simp only [go_sem, Try.ntmps41, bh0f, bh2t, h2t, rL_get h2t, hbi, bh3t, h3t, rL_get h3t, hbj, rI_get r1, rI_get r2, bg0t, bg1t, bg2f]) <;> exact rfl
  · intro bh5t
    have h5t := bh5t
    try simp only [CS] at h5t
    try simp only [BS] at bh5t
    try exact absurd bh5t (by decide)
    all_goals (
  apply T_seq
  apply T_r F
  · (simp only [go_sem, Try.ntmps41, bh0f, bh2t, h2t, rL_get h2t, hbi, bh3t, h3t, rL_get h3t, hbj, rI_get r1, rI_get r2, bg0t, bg1t, bg2f, bh5t]) <;> exact rfl
  apply K_seq
  apply T_ret
  apply K_blkR
  apply K_seqR
  apply K_lpR
  apply K_blkR
  apply K_blkR
  apply K_seqR
  apply K_lpR
  apply K_blkR
  apply K_seqR
  apply fin_ret
  · (simp only [go_sem, Try.ntmps41, bh0f, bh2t, h2t, rL_get h2t, hbi, bh3t, h3t, rL_get h3t, hbj, rI_get r1, rI_get r2, bg0t, bg1t, bg2f, bh5t, Try.f41]) <;> exact rfl
  -- leaf 4 (ret)
  simp only [go_sem, Try.ntmps41, bh0f, bh2t, h2t, rL_get h2t, hbi, bh3t, h3t, rL_get h3t, hbj, rI_get r1, rI_get r2, bg0t, bg1t, bg2f, bh5t, V.bool.injEq, V.int.injEq, true_and]
  grind [M.Walks])
  · intro bh5f
    exact absurd bh5f (by simp)))
  · intro bg1f
    have g1f := bg1f
    try simp only [CS] at g1f
    try simp only [BS] at bg1f
    try exact absurd bg1f (by decide)
    all_goals (
  apply Q_pre [15, 16, 17, 18] [19, 20, 21, 22, 23, 24, 25, 26, 27, 28, 29, 30, 31, 32, 33, 34, 35, 36, 37, 38, 39, 40, 41, 42, 43, 44]
  · (simp only [go_sem, Try.ntmps41, bh0f, bh2t, h2t, rL_get h2t, hbi, bh3t, h3t, rL_get h3t, hbj, rI_get r1, rI_get r2, bg0t, bg1f]) <;> exact rfl
  apply Q_pre [19, 20, 21, 22] [23, 24, 25, 26, 27, 28, 29, 30, 31, 32, 33, 34, 35, 36, 37, 38, 39, 40, 41, 42, 43, 44]
  · (simp only [go_sem, Try.ntmps41, bh0f, bh2t, h2t, rL_get h2t, hbi, bh3t, h3t, rL_get h3t, hbj, rI_get r1, rI_get r2, bg0t, bg1f]) <;> exact rfl
  apply Q_pre [23, 24, 25, 26] [27, 28, 29, 30, 31, 32, 33, 34, 35, 36, 37, 38, 39, 40, 41, 42, 43, 44]
  · (simp only [go_sem, Try.ntmps41, bh0f, bh2t, h2t, rL_get h2t, hbi, bh3t, h3t, rL_get h3t, hbj, rI_get r1, rI_get r2, bg0t, bg1f]) <;> exact rfl
  apply Q_pre [27, 28, 29, 30] [31, 32, 33, 34, 35, 36, 37, 38, 39, 40, 41, 42, 43, 44]
  · (simp only [go_sem, Try.ntmps41, bh0f, bh2t, h2t, rL_get h2t, hbi, bh3t, h3t, rL_get h3t, hbj, rI_get r1, rI_get r2, bg0t, bg1f]) <;> exact rfl
  apply Q_pre [31, 32, 33, 34] [35, 36, 37, 38, 39, 40, 41, 42, 43, 44]
  · (simp only [go_sem, Try.ntmps41, bh0f, bh2t, h2t, rL_get h2t, hbi, bh3t, h3t, rL_get h3t, hbj, rI_get r1, rI_get r2, bg0t, bg1f]) <;> exact rfl
  apply Q_pre [35, 36, 37, 38] [39, 40, 41, 42, 43, 44]
  · (simp only [go_sem, Try.ntmps41, bh0f, bh2t, h2t, rL_get h2t, hbi, bh3t, h3t, rL_get h3t, hbj, rI_get r1, rI_get r2, bg0t, bg1f]) <;> exact rfl
  apply Q_run
  · (simp only [go_sem, Try.ntmps41, bh0f, bh2t, h2t, rL_get h2t, hbi, bh3t, h3t, rL_get h3t, hbj, rI_get r1, rI_get r2, bg0t, bg1f]) <;> exact rfl
  apply Q_nil
  apply K_seq
  apply T_if
  · (simp only [go_sem, Try.ntmps41, bh0f, bh2t, h2t, rL_get h2t, hbi, bh3t, h3t, rL_get h3t, hbj, rI_get r1, rI_get r2, bg0t, bg1f]) <;> exact rfl
  · intro bh6t
    have h6t := bh6t
    try simp only [CS] at h6t
    try simp only [BS] at bh6t
    try exact absurd bh6t (by decide)
    all_goals (
  apply T_seq
  apply T_r F
  · (simp only [go_sem, Try.ntmps41, bh0f, bh2t, h2t, rL_get h2t, hbi, bh3t, h3t, rL_get h3t, hbj, rI_get r1, rI_get r2, bg0t, bg1f, bh6t]) <;> exact rfl
  apply K_seq
  apply T_ret
  apply K_blkR
  apply K_seqR
  apply K_lpR
  apply K_blkR
  apply K_blkR
  apply K_seqR
  apply K_lpR
  apply K_blkR
  apply K_seqR
  apply fin_ret
  · (simp only [go_sem, Try.ntmps41, bh0f, bh2t, h2t, rL_get h2t, hbi, bh3t, h3t, rL_get h3t, hbj, rI_get r1, rI_get r2, bg0t, bg1f, bh6t, Try.f41]) <;> exact rfl
  -- leaf 5 (ret)
  simp only [go_sem, Try.ntmps41, bh0f, bh2t, h2t, rL_get h2t, hbi, bh3t, h3t, rL_get h3t, hbj, rI_get r1, rI_get r2, bg0t, bg1f, bh6t, V.bool.injEq, V.int.injEq, true_and]
  grind [M.Walks])
  · intro bh6f
    have h6f := bh6f
    try simp only [CS] at h6f
    try simp only [BS] at bh6f
    try exact absurd bh6f (by decide)
    all_goals (
  apply T_skip
  apply K_blk
  apply K_seq
  apply T_r F
  · (simp only [go_sem, Try.ntmps41, bh0f, bh2t, h2t, rL_get h2t, hbi, bh3t, h3t, rL_get h3t, hbj, rI_get r1, rI_get r2, bg0t, bg1f, bh6f]) <;> exact rfl
  refine K_lp (j + 1) ?_ ?_
  · (simp only [go_sem, Try.ntmps41, bh0f, bh2t, h2t, rL_get h2t, hbi, bh3t, h3t, rL_get h3t, hbj, rI_get r1, rI_get r2, bg0t, bg1f, bh6f]) <;> exact rfl
  -- leaf 6 (loop2)
  grind)))
  · intro bg0f
    have g0f := bg0f
    try simp only [CS] at g0f
    try simp only [BS] at bg0f
    try exact absurd bg0f (by decide)
    all_goals (
  apply Q_pre [11, 12, 13, 14] [15, 16, 17, 18, 19, 20, 21, 22, 23, 24, 25, 26, 27, 28, 29, 30, 31, 32, 33, 34, 35, 36, 37, 38, 39, 40, 41, 42, 43, 44]
  · (simp only [go_sem, Try.ntmps41, bh0f, bh2t, h2t, rL_get h2t, hbi, bh3t, h3t, rL_get h3t, hbj, rI_get r1, rI_get r2, bg0f]) <;> exact rfl
  apply Q_pre [15, 16, 17, 18] [19, 20, 21, 22, 23, 24, 25, 26, 27, 28, 29, 30, 31, 32, 33, 34, 35, 36, 37, 38, 39, 40, 41, 42, 43, 44]
  · (simp only [go_sem, Try.ntmps41, bh0f, bh2t, h2t, rL_get h2t, hbi, bh3t, h3t, rL_get h3t, hbj, rI_get r1, rI_get r2, bg0f]) <;> exact rfl
  apply Q_pre [19, 20, 21, 22] [23, 24, 25, 26, 27, 28, 29, 30, 31, 32, 33, 34, 35, 36, 37, 38, 39, 40, 41, 42, 43, 44]
  · (simp only [go_sem, Try.ntmps41, bh0f, bh2t, h2t, rL_get h2t, hbi, bh3t, h3t, rL_get h3t, hbj, rI_get r1, rI_get r2, bg0f]) <;> exact rfl
  apply Q_pre [23, 24, 25, 26] [27, 28, 29, 30, 31, 32, 33, 34, 35, 36, 37, 38, 39, 40, 41, 42, 43, 44]
  · (simp only [go_sem, Try.ntmps41, bh0f, bh2t, h2t, rL_get h2t, hbi, bh3t, h3t, rL_get h3t, hbj, rI_get r1, rI_get r2, bg0f]) <;> exact rfl
  apply Q_pre [27, 28, 29, 30] [31, 32, 33, 34, 35, 36, 37, 38, 39, 40, 41, 42, 43, 44]
  · (simp only [go_sem, Try.ntmps41, bh0f, bh2t, h2t, rL_get h2t, hbi, bh3t, h3t, rL_get h3t, hbj, rI_get r1, rI_get r2, bg0f]) <;> exact rfl
  apply Q_pre [31, 32, 33, 34] [35, 36, 37, 38, 39, 40, 41, 42, 43, 44]
  · (simp only [go_sem, Try.ntmps41, bh0f, bh2t, h2t, rL_get h2t, hbi, bh3t, h3t, rL_get h3t, hbj, rI_get r1, rI_get r2, bg0f]) <;> exact rfl
  apply Q_pre [35, 36, 37, 38] [39, 40, 41, 42, 43, 44]
  · (simp only [go_sem, Try.ntmps41, bh0f, bh2t, h2t, rL_get h2t, hbi, bh3t, h3t, rL_get h3t, hbj, rI_get r1, rI_get r2, bg0f]) <;> exact rfl
  apply Q_run
  · (simp only [go_sem, Try.ntmps41, bh0f, bh2t, h2t, rL_get h2t, hbi, bh3t, h3t, rL_get h3t, hbj, rI_get r1, rI_get r2, bg0f]) <;> exact rfl
  apply Q_nil
  apply K_seq
  apply T_if
  · (simp only [go_sem, Try.ntmps41, bh0f, bh2t, h2t, rL_get h2t, hbi, bh3t, h3t, rL_get h3t, hbj, rI_get r1, rI_get r2, bg0f]) <;> exact rfl
  · intro bh7t
    have h7t := bh7t
    try simp only [CS] at h7t
    try simp only [BS] at bh7t
    try exact absurd bh7t (by decide)
    all_goals (
  apply T_seq
  apply T_r F
  · (simp only [go_sem, Try.ntmps41, bh0f, bh2t, h2t, rL_get h2t, hbi, bh3t, h3t, rL_get h3t, hbj, rI_get r1, rI_get r2, bg0f, bh7t]) <;> exact rfl
  apply K_seq
  apply T_ret
  apply K_blkR
  apply K_seqR
  apply K_lpR
  apply K_blkR
  apply K_blkR
  apply K_seqR
  apply K_lpR
  apply K_blkR
  apply K_seqR
  apply fin_ret
  · (simp only [go_sem, Try.ntmps41, bh0f, bh2t, h2t, rL_get h2t, hbi, bh3t, h3t, rL_get h3t, hbj, rI_get r1, rI_get r2, bg0f, bh7t, Try.f41]) <;> exact rfl
  -- leaf 7 (ret)
  simp only [go_sem, Try.ntmps41, bh0f, bh2t, h2t, rL_get h2t, hbi, bh3t, h3t, rL_get h3t, hbj, rI_get r1, rI_get r2, bg0f, bh7t, V.bool.injEq, V.int.injEq, true_and]
  grind [M.Walks])
  · intro bh7f
    exact absurd bh7f (by simp)))
    · intro bh3f
      have h3f := bh3f
      try simp only [CS] at h3f
      try simp only [BS] at bh3f
      try exact absurd bh3f (by decide)
      all_goals (
  apply T_exit
  apply K_seqE
  apply K_lpE
  apply K_blkE
  apply K_blk
  apply K_seq
  apply T_r F
  · (simp only [go_sem, Try.ntmps41, bh0f, bh2t, h2t, rL_get h2t, hbi, bh3f]) <;> exact rfl
  refine K_lp (i + 1) ?_ ?_
  · (simp only [go_sem, Try.ntmps41, bh0f, bh2t, h2t, rL_get h2t, hbi, bh3f]) <;> exact rfl
  -- leaf 8 (loop1)
  grind))
    · intro bh2f
      have h2f := bh2f
      try simp only [CS] at h2f
      try simp only [BS] at bh2f
      try exact absurd bh2f (by decide)
      all_goals (
  apply T_exit
  apply K_seqE
  apply K_lpE
  apply K_blkE
  apply K_seq
  apply T_seq
  apply T_wL F [0, 1, 2, 3, 4] rfl
  apply W_pre [0, 1, 2] [3, 4]
  · (simp only [go_sem, Try.ntmps41, bh0f, bh2f]) <;> exact rfl
  apply W_call -- call 1 of function 43
  · (simp only [go_sem, Try.ntmps41, bh0f, bh2f]) <;> exact rfl
  · (simp only [go_sem, Try.ntmps41, bh0f, bh2f]) <;> exact rfl
  · exact rfl
  · (simp only [go_sem, Try.ntmps41, bh0f, bh2f]) <;> exact rfl
  · (simp only [go_sem, Try.ntmps41, bh0f, bh2f]) <;> exact rfl
  · exact ⟨_, Try.func43, rfl, rfl⟩
  · (simp only [go_sem, Try.ntmps41, bh0f, bh2f]) <;> exact rfl
  · (simp only [go_sem, Try.ntmps41, bh0f, bh2f]) <;> exact rfl
  · exact ref_in _ _ _
  apply W_run
  · (simp only [go_sem, Try.ntmps41, bh0f, bh2f]) <;> exact rfl
  apply W_nil
  apply K_seq
  apply T_ret
  apply fin_ret
  · (simp only [go_sem, Try.ntmps41, bh0f, bh2f, Try.f41]) <;> exact rfl
  -- leaf 9 (ret)
  simp only [go_sem, Try.ntmps41, bh0f, bh2f, V.bool.injEq, V.int.injEq, true_and]
  grind [M.Walks]))

theorem ref_houses (t : Town) : Ret Try.prog 42 [.agg (cT t)] (.bool (decide (M.Houses t))) := by
  refine Ret.of_fits fun hfits => ?_
  simp only [V.fits, V.fitsL, V.fitsR, cT_fits] at hfits
  have hl := hfits.1.houses
  have hlw := hfits.1.wishes
  apply Ret_fin (fn := Try.f42) Try.func42 rfl
  apply T_seq
  apply T_r F
  · (simp only [go_sem, Try.ntmps42]) <;> exact rfl
  apply K_seq
  apply T_seq
  apply T_seq
  apply T_r F
  · (simp only [go_sem, Try.ntmps42]) <;> exact rfl
  apply K_seq
  apply T_block
  apply T_lp (α := Nat) [false, true, false, true, false, false, false, false, false, false, false, false, false, false, false, false, false, false, false, false, false, false, false, false, false, false, false, false, false, false, false, false, false, false, false, false, false, false, false, false, false, false, false, false, false, false, false, false, false, false, false, false, false, false, false, false, false, false, false, false, false, false, false, false, false, false, false, false, false] (fun i => (⟨[.undef, .ptr 0 0, .undef, .int .i64 (i : Int), .undef, .undef, .undef, .undef, .undef, .undef, .undef, .undef, .undef, .undef, .undef, .undef, .undef, .undef, .undef, .undef, .undef, .undef, .undef, .undef, .undef, .undef, .undef, .undef, .undef, .undef, .undef, .undef, .undef, .undef, .undef, .undef, .undef, .undef, .undef, .undef, .undef, .undef, .undef, .undef, .undef, .undef, .undef, .undef, .undef, .undef, .undef, .undef, .undef, .undef, .undef, .undef, .undef, .undef, .undef, .undef, .undef, .undef, .undef, .undef, .undef, .undef, .undef, .undef, .undef], [.box 28 (cT t)]⟩ : St)) (fun i => i ≤ t.houses.length ∧ ∀ a, a < i → M.HouseOk t a) (fun i => t.houses.length - i) (0)
  · (simp only [go_sem, Try.ntmps42]) <;> exact rfl
  · simp
  · rintro i ⟨hi, hia⟩
    apply T_seq
    apply T_seq
    apply T_r F
    · (simp only [go_sem, Try.ntmps42]) <;> exact rfl
    apply K_seq
    apply T_if
    · (simp only [go_sem, Try.ntmps42]) <;> exact rfl
    · intro bh0t
      have h0t := bh0t
      try simp only [CS] at h0t
      try simp only [BS] at bh0t
      try exact absurd bh0t (by decide)
      all_goals (
  have hb : i < 9223372036854775807 := by omega
  have hsi := M.hs_get h0t
  have hlw1 := hlw _ (List.getElem_mem h0t)
  have hok : M.Houses t → M.HouseOk t i := fun w => w.1 i h0t
  unfold M.HouseOk at hok
  rw [hsi] at hok
  apply T_skip
  apply K_seq
  apply T_seq
  apply T_block
  apply T_seq
  apply T_r F
  · (simp only [go_sem, Try.ntmps42, bh0t, h0t, rH_get h0t, hb]) <;> exact rfl
  apply K_seq
  apply T_seq
  apply T_seq
  apply T_wL F [0, 1, 2, 3, 4] rfl
  apply W_pre [0, 1, 2] [3, 4]
  · (simp only [go_sem, Try.ntmps42, bh0t, h0t, rH_get h0t, hb]) <;> exact rfl
  apply W_call -- call 0 of function 33
  · (simp only [go_sem, Try.ntmps42, bh0t, h0t, rH_get h0t, hb]) <;> exact rfl
  · (simp only [go_sem, Try.ntmps42, bh0t, h0t, rH_get h0t, hb]) <;> exact rfl
  · exact rfl
  · (simp only [go_sem, Try.ntmps42, bh0t, h0t, rH_get h0t, hb]) <;> exact rfl
  · (simp only [go_sem, Try.ntmps42, bh0t, h0t, rH_get h0t, hb]) <;> exact rfl
  · exact ⟨_, Try.func33, rfl, rfl⟩
  · (simp only [go_sem, Try.ntmps42, bh0t, h0t, rH_get h0t, hb]) <;> exact rfl
  · (simp only [go_sem, Try.ntmps42, bh0t, h0t, rH_get h0t, hb]) <;> exact rfl
  · exact ref_lot _ _
  apply W_run
  · (simp only [go_sem, Try.ntmps42, bh0t, h0t, rH_get h0t, hb]) <;> exact rfl
  apply W_nil
  apply K_seq
  apply T_if
  · (simp only [go_sem, Try.ntmps42, bh0t, h0t, rH_get h0t, hb]) <;> exact rfl
  · intro bh1t
    have h1t := bh1t
    try simp only [CS] at h1t
    try simp only [BS] at bh1t
    try exact absurd bh1t (by decide)
    all_goals (
  apply T_seq
  apply T_r F
  · (simp only [go_sem, Try.ntmps42, bh0t, h0t, rH_get h0t, hb, bh1t]) <;> exact rfl
  apply K_seq
  apply T_ret
  apply K_seqR
  apply K_blkR
  apply K_seqR
  apply K_lpR
  apply K_blkR
  apply K_seqR
  apply fin_ret
  · (simp only [go_sem, Try.ntmps42, bh0t, h0t, rH_get h0t, hb, bh1t, Try.f42]) <;> exact rfl
  -- leaf 0 (ret)
  simp only [go_sem, Try.ntmps42, bh0t, h0t, rH_get h0t, hb, bh1t, V.bool.injEq, V.int.injEq, true_and]
  grind [M.Houses])
  · intro bh1f
    have h1f := bh1f
    try simp only [CS] at h1f
    try simp only [BS] at bh1f
    try exact absurd bh1f (by decide)
    all_goals (
  apply T_skip
  apply K_seq
  apply T_seq
  apply T_seq
  apply T_r F
  · (simp only [go_sem, Try.ntmps42, bh0t, h0t, rH_get h0t, hb, bh1f]) <;> exact rfl
  apply K_seq
  apply T_block
  apply T_lp (α := Nat) [false, true, false, true, true, true, false, false, false, false, false, false, false, false, false, false, false, false, false, false, false, false, false, false, false, false, false, false, false, false, false, false, false, false, false, false, false, false, false, false, false, false, false, false, false, false, false, false, false, false, false, false, false, false, false, false, false, false, false, false, false, false, false, false, false, false, false, false, false] (fun k => (⟨[.undef, .ptr 0 0, .undef, .int .i64 (i : Int), .ptr 1 0, .int .i64 (k : Int), .undef, .undef, .undef, .undef, .undef, .undef, .undef, .undef, .undef, .undef, .undef, .undef, .undef, .undef, .undef, .undef, .undef, .undef, .undef, .undef, .undef, .undef, .undef, .undef, .undef, .undef, .undef, .undef, .undef, .undef, .undef, .undef, .undef, .undef, .undef, .undef, .undef, .undef, .undef, .undef, .undef, .undef, .undef, .undef, .undef, .undef, .undef, .undef, .undef, .undef, .undef, .undef, .undef, .undef, .undef, .undef, .undef, .undef, .undef, .undef, .undef, .undef, .undef], [.box 28 (cT t), .box 40 [.int .i64 t.houses[i].lot, .sl 1 (rI t.houses[i].wishes), .bool t.houses[i].school]]⟩ : St)) (fun k => k ≤ i ∧ ∀ b, b < k → (M.hs t b).lot ≠ (M.hs t i).lot) (fun k => i - k) (0)
  · (simp only [go_sem, Try.ntmps42, bh0t, h0t, rH_get h0t, hb, bh1f]) <;> exact rfl
  · simp
  · rintro k ⟨hk, hkb⟩
    apply T_seq
    apply T_seq
    apply T_r F
    · (simp only [go_sem, Try.ntmps42, bh0t, h0t, rH_get h0t, hb, bh1f]) <;> exact rfl
    apply K_seq
    apply T_if
    · (simp only [go_sem, Try.ntmps42, bh0t, h0t, rH_get h0t, hb, bh1f]) <;> exact rfl
    · intro bh2t
      have h2t := bh2t
      try simp only [CS] at h2t
      try simp only [BS] at bh2t
      try exact absurd bh2t (by decide)
      all_goals (
  have hkn : k < t.houses.length := by omega
  have hbk : k < 9223372036854775807 := by omega
  have hsk := M.hs_get hkn
  apply T_skip
  apply K_seq
  apply T_seq
  apply T_block
  apply T_seq
  apply T_qL F [0, 1, 2, 3, 4, 5, 6, 7, 8] rfl (by kernel_rfl)
  apply Q_pre [0, 1, 2, 3] [4, 5, 6, 7, 8]
  · (simp only [go_sem, Try.ntmps42, bh0t, h0t, rH_get h0t, hb, bh1f, bh2t, h2t, rH_get hkn, hbk]) <;> exact rfl
  apply Q_run
  · (simp only [go_sem, Try.ntmps42, bh0t, h0t, rH_get h0t, hb, bh1f, bh2t, h2t, rH_get hkn, hbk]) <;> exact rfl
  apply Q_nil
  apply K_seq
  apply T_if
  · (simp only [go_sem, Try.ntmps42, bh0t, h0t, rH_get h0t, hb, bh1f, bh2t, h2t, rH_get hkn, hbk]) <;> exact rfl
  · intro bh3t
    have h3t := bh3t
    try simp only [CS] at h3t
    try simp only [BS] at bh3t
    try exact absurd bh3t (by decide)
    all_goals (
  apply T_seq
  apply T_r F
  · (simp only [go_sem, Try.ntmps42, bh0t, h0t, rH_get h0t, hb, bh1f, bh2t, h2t, rH_get hkn, hbk, bh3t]) <;> exact rfl
  apply K_seq
  apply T_ret
  apply K_blkR
  apply K_seqR
  apply K_lpR
  apply K_blkR
  apply K_seqR
  apply K_blkR
  apply K_seqR
  apply K_lpR
  apply K_blkR
  apply K_seqR
  apply fin_ret
  · (simp only [go_sem, Try.ntmps42, bh0t, h0t, rH_get h0t, hb, bh1f, bh2t, h2t, rH_get hkn, hbk, bh3t, Try.f42]) <;> exact rfl
  -- leaf 1 (ret)
  simp only [go_sem, Try.ntmps42, bh0t, h0t, rH_get h0t, hb, bh1f, bh2t, h2t, rH_get hkn, hbk, bh3t, V.bool.injEq, V.int.injEq, true_and]
  grind [M.Houses])
  · intro bh3f
    have h3f := bh3f
    try simp only [CS] at h3f
    try simp only [BS] at bh3f
    try exact absurd bh3f (by decide)
    all_goals (
  apply T_skip
  apply K_blk
  apply K_seq
  apply T_r F
  · (simp only [go_sem, Try.ntmps42, bh0t, h0t, rH_get h0t, hb, bh1f, bh2t, h2t, rH_get hkn, hbk, bh3f]) <;> exact rfl
  refine K_lp (k + 1) ?_ ?_
  · (simp only [go_sem, Try.ntmps42, bh0t, h0t, rH_get h0t, hb, bh1f, bh2t, h2t, rH_get hkn, hbk, bh3f]) <;> exact rfl
  -- leaf 2 (loop1)
  grind))
    · intro bh2f
      have h2f := bh2f
      try simp only [CS] at h2f
      try simp only [BS] at bh2f
      try exact absurd bh2f (by decide)
      all_goals (
  apply T_exit
  apply K_seqE
  apply K_lpE
  apply K_blkE
  apply K_seq
  apply T_seq
  apply T_r F
  · (simp only [go_sem, Try.ntmps42, bh0t, h0t, rH_get h0t, hb, bh1f, bh2f]) <;> exact rfl
  apply K_seq
  apply T_block
  apply T_lp (α := Nat) [false, true, false, true, true, false, true, false, false, false, false, false, false, false, false, false, false, false, false, false, false, false, false, false, false, false, false, false, false, false, false, false, false, false, false, false, false, false, false, false, false, false, false, false, false, false, false, false, false, false, false, false, false, false, false, false, false, false, false, false, false, false, false, false, false, false, false, false, false] (fun j => (⟨[.undef, .ptr 0 0, .undef, .int .i64 (i : Int), .ptr 1 0, .undef, .int .i64 (j : Int), .undef, .undef, .undef, .undef, .undef, .undef, .undef, .undef, .undef, .undef, .undef, .undef, .undef, .undef, .undef, .undef, .undef, .undef, .undef, .undef, .undef, .undef, .undef, .undef, .undef, .undef, .undef, .undef, .undef, .undef, .undef, .undef, .undef, .undef, .undef, .undef, .undef, .undef, .undef, .undef, .undef, .undef, .undef, .undef, .undef, .undef, .undef, .undef, .undef, .undef, .undef, .undef, .undef, .undef, .undef, .undef, .undef, .undef, .undef, .undef, .undef, .undef], [.box 28 (cT t), .box 40 [.int .i64 t.houses[i].lot, .sl 1 (rI t.houses[i].wishes), .bool t.houses[i].school]]⟩ : St)) (fun j => j ≤ (M.hs t i).wishes.length ∧ ∀ b, b < j → M.lot t (M.at' (M.hs t i).wishes b) = true ∧ ((M.hs t i).wishes.take b).contains (M.at' (M.hs t i).wishes b) = false) (fun j => (M.hs t i).wishes.length - j) (0)
  · (simp only [go_sem, Try.ntmps42, bh0t, h0t, rH_get h0t, hb, bh1f, bh2f]) <;> exact rfl
  · simp
  · rintro j ⟨hjj, hjb⟩
    apply T_seq
    apply T_seq
    apply T_r F
    · (simp only [go_sem, Try.ntmps42, bh0t, h0t, rH_get h0t, hb, bh1f, bh2f]) <;> exact rfl
    apply K_seq
    apply T_if
    · (simp only [go_sem, Try.ntmps42, bh0t, h0t, rH_get h0t, hb, bh1f, bh2f]) <;> exact rfl
    · intro bh4t
      have h4t := bh4t
      try simp only [CS] at h4t
      try simp only [BS] at bh4t
      try exact absurd bh4t (by decide)
      all_goals (
  have hbj : j < 9223372036854775807 := by omega
  have hat := M.at_get h4t
  have hjl : j ≤ t.houses[i].wishes.length := by omega
  apply T_skip
  apply K_seq
  apply T_seq
  apply T_block
  apply T_seq
  apply T_qL F [0, 1, 2, 3, 4, 5, 6, 7, 8, 9, 10, 11, 12, 13, 14, 15, 16, 17, 18, 19] rfl (by kernel_rfl)
  apply Q_pre [0, 1, 2, 3, 4, 5] [6, 7, 8, 9, 10, 11, 12, 13, 14, 15, 16, 17, 18, 19]
  · (simp only [go_sem, Try.ntmps42, bh0t, h0t, rH_get h0t, hb, bh1f, bh2f, bh4t, h4t, rI_get h4t, hbj, hjl]) <;> exact rfl
  apply Q_call -- call 1 of function 33
  · (simp only [go_sem, Try.ntmps42, bh0t, h0t, rH_get h0t, hb, bh1f, bh2f, bh4t, h4t, rI_get h4t, hbj, hjl]) <;> exact rfl
  · (simp only [go_sem, Try.ntmps42, bh0t, h0t, rH_get h0t, hb, bh1f, bh2f, bh4t, h4t, rI_get h4t, hbj, hjl]) <;> exact rfl
  · exact rfl
  · (simp only [go_sem, Try.ntmps42, bh0t, h0t, rH_get h0t, hb, bh1f, bh2f, bh4t, h4t, rI_get h4t, hbj, hjl]) <;> exact rfl
  · (simp only [go_sem, Try.ntmps42, bh0t, h0t, rH_get h0t, hb, bh1f, bh2f, bh4t, h4t, rI_get h4t, hbj, hjl]) <;> exact rfl
  · exact ⟨_, Try.func33, rfl, rfl⟩
  · (simp only [go_sem, Try.ntmps42, bh0t, h0t, rH_get h0t, hb, bh1f, bh2f, bh4t, h4t, rI_get h4t, hbj, hjl]) <;> exact rfl
  · exact ref_lot _ _
  apply Q_pre [7, 8] [9, 10, 11, 12, 13, 14, 15, 16, 17, 18, 19]
  · (simp only [go_sem, Try.ntmps42, bh0t, h0t, rH_get h0t, hb, bh1f, bh2f, bh4t, h4t, rI_get h4t, hbj, hjl]) <;> exact rfl
  apply Q_guard
  · (simp only [go_sem, Try.ntmps42, bh0t, h0t, rH_get h0t, hb, bh1f, bh2f, bh4t, h4t, rI_get h4t, hbj, hjl]) <;> exact rfl
  · (simp only [go_sem, Try.ntmps42, bh0t, h0t, rH_get h0t, hb, bh1f, bh2f, bh4t, h4t, rI_get h4t, hbj, hjl]) <;> exact rfl
  · intro bg0t
    have g0t := bg0t
    try simp only [CS] at g0t
    try simp only [BS] at bg0t
    try exact absurd bg0t (by decide)
    all_goals (
  apply Q_pre [9, 10, 11, 12] [13, 14, 15, 16, 17, 18, 19]
  · (simp only [go_sem, Try.ntmps42, bh0t, h0t, rH_get h0t, hb, bh1f, bh2f, bh4t, h4t, rI_get h4t, hbj, hjl, bg0t]) <;> exact rfl
  apply Q_pre [13, 14, 15, 16, 17] [18, 19]
  · (simp only [go_sem, Try.ntmps42, bh0t, h0t, rH_get h0t, hb, bh1f, bh2f, bh4t, h4t, rI_get h4t, hbj, hjl, bg0t]) <;> exact rfl
  apply Q_call -- call 2 of function 18
  · (simp only [go_sem, Try.ntmps42, bh0t, h0t, rH_get h0t, hb, bh1f, bh2f, bh4t, h4t, rI_get h4t, hbj, hjl, bg0t]) <;> exact rfl
  · (simp only [go_sem, Try.ntmps42, bh0t, h0t, rH_get h0t, hb, bh1f, bh2f, bh4t, h4t, rI_get h4t, hbj, hjl, bg0t]) <;> exact rfl
  · exact rfl
  · (simp only [go_sem, Try.ntmps42, bh0t, h0t, rH_get h0t, hb, bh1f, bh2f, bh4t, h4t, rI_get h4t, hbj, hjl, bg0t]) <;> exact rfl
  · (simp only [go_sem, Try.ntmps42, bh0t, h0t, rH_get h0t, hb, bh1f, bh2f, bh4t, h4t, rI_get h4t, hbj, hjl, bg0t]) <;> exact rfl
  · exact ⟨_, Try.func18, rfl, rfl⟩
  · (simp only [go_sem, Try.ntmps42, bh0t, h0t, rH_get h0t, hb, bh1f, bh2f, bh4t, h4t, rI_get h4t, hbj, hjl, bg0t]) <;> exact rfl
  · exact ref_has _ _
  apply Q_run
  · (simp only [go_sem, Try.ntmps42, bh0t, h0t, rH_get h0t, hb, bh1f, bh2f, bh4t, h4t, rI_get h4t, hbj, hjl, bg0t]) <;> exact rfl
  apply Q_nil
  apply K_seq
  apply T_if
  · (simp only [go_sem, Try.ntmps42, bh0t, h0t, rH_get h0t, hb, bh1f, bh2f, bh4t, h4t, rI_get h4t, hbj, hjl, bg0t]) <;> exact rfl
  · intro bh5t
    have h5t := bh5t
    try simp only [CS] at h5t
    try simp only [BS] at bh5t
    try exact absurd bh5t (by decide)
    all_goals (
  apply T_seq
  apply T_r F
  · (simp only [go_sem, Try.ntmps42, bh0t, h0t, rH_get h0t, hb, bh1f, bh2f, bh4t, h4t, rI_get h4t, hbj, hjl, bg0t, bh5t]) <;> exact rfl
  apply K_seq
  apply T_ret
  apply K_blkR
  apply K_seqR
  apply K_lpR
  apply K_blkR
  apply K_blkR
  apply K_seqR
  apply K_lpR
  apply K_blkR
  apply K_seqR
  apply fin_ret
  · (simp only [go_sem, Try.ntmps42, bh0t, h0t, rH_get h0t, hb, bh1f, bh2f, bh4t, h4t, rI_get h4t, hbj, hjl, bg0t, bh5t, Try.f42]) <;> exact rfl
  -- leaf 3 (ret)
  simp only [go_sem, Try.ntmps42, bh0t, h0t, rH_get h0t, hb, bh1f, bh2f, bh4t, h4t, rI_get h4t, hbj, hjl, bg0t, bh5t, V.bool.injEq, V.int.injEq, true_and]
  grind [M.Houses])
  · intro bh5f
    have h5f := bh5f
    try simp only [CS] at h5f
    try simp only [BS] at bh5f
    try exact absurd bh5f (by decide)
    all_goals (
  apply T_skip
  apply K_blk
  apply K_seq
  apply T_r F
  · (simp only [go_sem, Try.ntmps42, bh0t, h0t, rH_get h0t, hb, bh1f, bh2f, bh4t, h4t, rI_get h4t, hbj, hjl, bg0t, bh5f]) <;> exact rfl
  refine K_lp (j + 1) ?_ ?_
  · (simp only [go_sem, Try.ntmps42, bh0t, h0t, rH_get h0t, hb, bh1f, bh2f, bh4t, h4t, rI_get h4t, hbj, hjl, bg0t, bh5f]) <;> exact rfl
  -- leaf 4 (loop2)
  grind))
  · intro bg0f
    have g0f := bg0f
    try simp only [CS] at g0f
    try simp only [BS] at bg0f
    try exact absurd bg0f (by decide)
    all_goals (
  apply Q_pre [9, 10, 11, 12] [13, 14, 15, 16, 17, 18, 19]
  · (simp only [go_sem, Try.ntmps42, bh0t, h0t, rH_get h0t, hb, bh1f, bh2f, bh4t, h4t, rI_get h4t, hbj, hjl, bg0f]) <;> exact rfl
  apply Q_pre [13, 14, 15, 16] [17, 18, 19]
  · (simp only [go_sem, Try.ntmps42, bh0t, h0t, rH_get h0t, hb, bh1f, bh2f, bh4t, h4t, rI_get h4t, hbj, hjl, bg0f]) <;> exact rfl
  apply Q_run
  · (simp only [go_sem, Try.ntmps42, bh0t, h0t, rH_get h0t, hb, bh1f, bh2f, bh4t, h4t, rI_get h4t, hbj, hjl, bg0f]) <;> exact rfl
  apply Q_nil
  apply K_seq
  apply T_if
  · (simp only [go_sem, Try.ntmps42, bh0t, h0t, rH_get h0t, hb, bh1f, bh2f, bh4t, h4t, rI_get h4t, hbj, hjl, bg0f]) <;> exact rfl
  · intro bh6t
    have h6t := bh6t
    try simp only [CS] at h6t
    try simp only [BS] at bh6t
    try exact absurd bh6t (by decide)
    all_goals (
  apply T_seq
  apply T_r F
  · (simp only [go_sem, Try.ntmps42, bh0t, h0t, rH_get h0t, hb, bh1f, bh2f, bh4t, h4t, rI_get h4t, hbj, hjl, bg0f, bh6t]) <;> exact rfl
  apply K_seq
  apply T_ret
  apply K_blkR
  apply K_seqR
  apply K_lpR
  apply K_blkR
  apply K_blkR
  apply K_seqR
  apply K_lpR
  apply K_blkR
  apply K_seqR
  apply fin_ret
  · (simp only [go_sem, Try.ntmps42, bh0t, h0t, rH_get h0t, hb, bh1f, bh2f, bh4t, h4t, rI_get h4t, hbj, hjl, bg0f, bh6t, Try.f42]) <;> exact rfl
  -- leaf 5 (ret)
  simp only [go_sem, Try.ntmps42, bh0t, h0t, rH_get h0t, hb, bh1f, bh2f, bh4t, h4t, rI_get h4t, hbj, hjl, bg0f, bh6t, V.bool.injEq, V.int.injEq, true_and]
  grind [M.Houses])
  · intro bh6f
    exact absurd bh6f (by simp)))
    · intro bh4f
      have h4f := bh4f
      try simp only [CS] at h4f
      try simp only [BS] at bh4f
      try exact absurd bh4f (by decide)
      all_goals (
  apply T_exit
  apply K_seqE
  apply K_lpE
  apply K_blkE
  apply K_blk
  apply K_seq
  apply T_r F
  · (simp only [go_sem, Try.ntmps42, bh0t, h0t, rH_get h0t, hb, bh1f, bh2f, bh4f]) <;> exact rfl
  refine K_lpc (i + 1) 1 (Nat.zero_le _) ?_ ?_ ?_ ?_ ?_
  · (simp only [go_sem, Try.ntmps42, bh0t, h0t, rH_get h0t, hb, bh1f, bh2f, bh4f]) <;> decide
  · (simp only [go_sem, Try.ntmps42, bh0t, h0t, rH_get h0t, hb, bh1f, bh2f, bh4f, Nat.reduceLT, decide_true, Nat.zero_lt_one, Nat.zero_lt_succ]) <;> rfl
  · (simp only [go_sem, Try.ntmps42, bh0t, h0t, rH_get h0t, hb, bh1f, bh2f, bh4f, Nat.reduceLT, decide_true, Nat.zero_lt_one, Nat.zero_lt_succ]) <;> rfl
  · (simp only [go_sem, Try.ntmps42, bh0t, h0t, rH_get h0t, hb, bh1f, bh2f, bh4f]) <;> exact rfl
  -- leaf 6 (loop0)
  grind [M.HouseOk]))))
    · intro bh0f
      have h0f := bh0f
      try simp only [CS] at h0f
      try simp only [BS] at bh0f
      try exact absurd bh0f (by decide)
      all_goals (
  apply T_exit
  apply K_seqE
  apply K_lpE
  apply K_blkE
  apply K_seq
  apply T_seq
  apply T_wL F [0, 1, 2, 3, 4] rfl
  apply W_pre [0, 1, 2] [3, 4]
  · (simp only [go_sem, Try.ntmps42, bh0f]) <;> exact rfl
  apply W_call -- call 3 of function 43
  · (simp only [go_sem, Try.ntmps42, bh0f]) <;> exact rfl
  · (simp only [go_sem, Try.ntmps42, bh0f]) <;> exact rfl
  · exact rfl
  · (simp only [go_sem, Try.ntmps42, bh0f]) <;> exact rfl
  · (simp only [go_sem, Try.ntmps42, bh0f]) <;> exact rfl
  · exact ⟨_, Try.func43, rfl, rfl⟩
  · (simp only [go_sem, Try.ntmps42, bh0f]) <;> exact rfl
  · (simp only [go_sem, Try.ntmps42, bh0f]) <;> exact rfl
  · exact ref_in _ _ _
  apply W_run
  · (simp only [go_sem, Try.ntmps42, bh0f]) <;> exact rfl
  apply W_nil
  apply K_seq
  apply T_ret
  apply fin_ret
  · (simp only [go_sem, Try.ntmps42, bh0f, Try.f42]) <;> exact rfl
  -- leaf 7 (ret)
  simp only [go_sem, Try.ntmps42, bh0f, V.bool.injEq, V.int.injEq, true_and]
  grind [M.Houses])

end Go.Ab
