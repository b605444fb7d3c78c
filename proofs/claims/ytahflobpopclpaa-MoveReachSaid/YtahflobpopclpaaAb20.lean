import Derived.Test.YtahflobpopclpaaAb19
import Derived.OrdersIn
namespace Go.Ab
open Go Go.RowKit
set_option linter.unusedVariables false

theorem StepR.soundOp {P : Program} {F : Facts P} {ops : Array Oper} {i : Nat} {s s' : St} (h : StepR F ops i s s') (ro : Option Nat) {C : Ctx} {m : List Value} {a : Act} {w : World} (S : Sim C s m a w) {K : Act → World → Prop} {Q : Exit → Act → World → Prop}
    (k : ∀ m' a' w', Sim C s' m' a' w' → LeN (env C s.h m w) (env C s'.h m' w') → K a' w') : wpOpIn (FW ro) 0 P ops Q i K a w := by
  unfold wpOpIn
  cases h with
  | skip ho hw =>
    simp only [ho, wantedV_sound S hw, Bool.false_eq_true, if_false]
    exact ⟨fun _ _ => trivial, k m _ w (S.puts _ rel_undef) (LeN.refl _)⟩
  | @val o v h' ho hw hop =>
    simp only [ho, wantedV_sound S hw, if_true, Oper.wpIn]
    obtain ⟨m', w', S', hU, u, hrun, hR⟩ := opV_sound F S o hop
    refine ⟨fun _ _ => trivial, ?_⟩
    rw [Oper.semAt_eq _ _ _ (fun c hc => by simp [hc, opV] at hop), hrun]
    exact k m' _ w' (S'.puts _ hR) hU.leN
  | @eff o h' ho hw hop =>
    simp only [ho, wantedV_sound S hw, if_true, Oper.wpIn]
    obtain ⟨m', w', S', hU, hrun⟩ := opV_sound F S o hop
    refine ⟨fun _ _ => trivial, ?_⟩
    rw [Oper.semAt_eq _ _ _ (fun c hc => by simp [hc, opV] at hop), hrun]
    exact k m' _ w' (S'.puts _ rel_undef) hU.leN
  | @call o x args ts g first caps vs r h' ho hw hop hx ha hb hr =>
    simp only [ho, wantedV_sound S hw, if_true, Oper.wpIn]
    refine ⟨fun _ _ => trivial, ?_⟩
    rw [Oper.semAt_eq _ _ _ (fun c hc => by simp [hc] at hop)]
    have hRx := ev_sound S hx
    simp only [Rel] at hRx
    obtain ⟨fa, ca, he, h1, h2⟩ := hRx
    have hRa := evs_sound S ha
    obtain ⟨fn, hfn, hbody, hname⟩ := hb
    have hnb : ¬ fn.body = none := fun e => by simp [e] at hbody
    have hne : ¬ fn.name = "runtime.NumGoroutine" := by simpa using hname
    have hcf : ∀ cargs, (callFunc g cargs).run P w = .ok (.enter g cargs) w := fun cargs => by
      simp [callFunc, hfn, hne, hnb]
    have hrun : (execOp a.eval o).run P w = .ok (.enter g (fa ++ args.map a.eval ++ ca)) w := by
      simp [execOp, hop, resolve, he, Deferred.ofValue, invoke, hcf]
    rw [hrun]
    refine ⟨fun h => by simp [FW, Fence.wide] at h, Calls.inFW ro _ ?_⟩
    have hargs : RelL (env C s.h m w) (first ++ vs ++ caps) (fa ++ args.map a.eval ++ ca).toList := by
      simp only [Array.toList_append, Array.toList_map]
      exact (h1.append hRa).append h2
    refine Calls.mono (hr C s.t m a w _ S hargs) ?_
    rintro e w' ⟨v, m', rfl, S', hR, hL⟩
    exact k m' _ w' (S'.puts _ hR) hL
  | @yld o x args ts j vs r h' ho hw hop hx ha hr =>
    simp only [ho, wantedV_sound S hw, if_true, Oper.wpIn]
    refine ⟨fun _ _ => trivial, ?_⟩
    rw [Oper.semAt_eq _ _ _ (fun c hc => by simp [hc] at hop)]
    have hRx := ev_sound S hx
    simp only [Rel] at hRx
    obtain ⟨b, hm, he⟩ := hRx
    obtain ⟨fn, tmps, as, bd, hy, hround⟩ := hr C s.t m a w (args.map a.eval) ro b S (by simpa using evs_sound S ha) hm
    have hrun : (execOp a.eval o).run P w = .ok (.round b fn tmps as bd) w := by
      simp [execOp, hop, resolve, he, Deferred.ofValue, invoke, hy]
    rw [hrun]
    refine ⟨fun h => by simp [FW, Fence.wide] at h, hround.mono ?_⟩
    rintro e w' ⟨v, m', rfl, S', hR, hL⟩
    exact k m' _ w' (S'.puts _ hR) hL

/-! ### an operation, told by what it looks at -/
structure Local {P : Program} (F : Facts P) (ops : Array Oper) (p : Nat → Bool) (i : Nat) (o : Oper) (s : St) (v : V) (eff : Eff) : Prop where
  run : ∀ s2 : St, (∀ x ∈ o.op.operands, ev s2 x = ev s x) → wantedV ops s2 o = wantedV ops s o → Same p s.h s2.h → (eff.grows = true → s2.h.length = s.h.length) → StepR F ops i s2 ⟨puts s2.t o.dst v, eff.app s2.h⟩
  tgt : ∀ a o', eff = .set a o' → p a = true ∧ a < s.h.length
theorem Local.move {P : Program} {F : Facts P} {ops : Array Oper} {p : Nat → Bool} {i : Nat} {o : Oper} {s s2 : St} {v : V} {eff : Eff} (L : Local F ops p i o s v eff) (h1 : ∀ x ∈ o.op.operands, ev s2 x = ev s x) (h2 : wantedV ops s2 o = wantedV ops s o)
    (h3 : Same p s.h s2.h) (h4 : eff.grows = true → s2.h.length = s.h.length) : Local F ops p i o s2 v eff := by
  refine ⟨fun s3 k1 k2 k3 k4 => L.run s3 (fun x hx => (k1 x hx).trans (h1 x hx)) (k2.trans h2) (fun j hj => (k3 j hj).trans (h3 j hj)) (fun g => (k4 g).trans (h4 g)), fun a o' he => ?_⟩
  obtain ⟨hp, hl⟩ := L.tgt a o' he
  refine ⟨hp, ?_⟩
  have := h3 a hp
  rw [List.getElem?_eq_getElem hl] at this
  exact (List.getElem?_eq_some_iff.1 this).1
def conf (tab : Nat → Option (Nat × Bool)) (i : Nat) (s : St) : Eff → Prop
  | .none => True
  | .set a _ => tab i = some (a, false)
  | .push _ => tab i = some (s.h.length, true)
/-- Whatever order is picked. -/
def AnyD {P : Program} (F : Facts P) (ops : Array Oper) (tab : Nat → Option (Nat × Bool)) (p : Nat → Nat → Bool) (md : Region.Mode) (K : St → Prop) : Nat → Array Bool → St → Prop
  | 0, listed, s => Region.ready md ops listed = [] ∧ K s
  | fuel + 1, listed, s => (Region.ready md ops listed = [] → K s) ∧
    ∀ i ∈ Region.ready md ops listed, ∃ o v eff, ops[i]? = some o ∧ Local F ops (p i) i o s v eff ∧ conf tab i s eff ∧ AnyD F ops tab p md K fuel (listed.setIfInBounds i true) ⟨puts s.t o.dst v, eff.app s.h⟩
theorem AnyD.sound {P : Program} {F : Facts P} {ops : Array Oper} {tab : Nat → Option (Nat × Bool)} {p : Nat → Nat → Bool} {md : Region.Mode} {K : St → Prop} (ro : Option Nat) {C : Ctx} {Q : Exit → Act → World → Prop} : ∀ (fuel : Nat) {listed : Array Bool} {s : St} {m : List Value} {a : Act} {w : World},
    AnyD F ops tab p md K fuel listed s → Sim C s m a w → (∀ s' m' a' w', K s' → Sim C s' m' a' w' → LeN (env C s.h m w) (env C s'.h m' w') → Q .normal a' w') → wpAnyIn (FW ro) 0 P md ops Q fuel listed a w
  | 0, listed, s, m, a, w, h, S, k => ⟨h.1, k s m a w h.2 S (LeN.refl _)⟩
  | fuel + 1, listed, s, m, a, w, h, S, k => by
    refine ⟨fun h0 => k s m a w (h.1 h0) S (LeN.refl _), fun i hi => ?_⟩
    obtain ⟨o, v, eff, ho, L, _, hK⟩ := h.2 i hi
    exact (L.run s (fun _ _ => rfl) rfl (fun _ _ => rfl) (fun _ => rfl)).soundOp ro S (fun m1 a1 w1 S1 L1 => AnyD.sound ro fuel hK S1 (fun s' m' a' w' hk S' L' => k s' m' a' w' hk S' (L1.trans L')))
/-! ### two operations that are apart -/
theorem ev_puts {t : List V} {h h2 : List AObj} {d : Option Tmp} {v : V} {x : Operand} (hx : ∀ k, d = some k → x ≠ .tmp k) : ev ⟨puts t d v, h⟩ x = ev ⟨t, h2⟩ x := by
  cases x with
  | tmp k =>
    cases d with
    | none => rfl
    | some d =>
      have : d ≠ k := fun e => hx d rfl (by rw [e])
      simp only [ev, puts]
      exact List.getElem?_set_ne this
  | _ => rfl
theorem looks_operands {ops : Array Oper} {o : Oper} {d : Option Tmp} (h : ∀ k, d = some k → k ∉ o.looksAt ops) {x : Operand} (hx : x ∈ o.op.operands) : ∀ k, d = some k → x ≠ .tmp k := fun k hk e => h k hk (by
  subst e
  exact List.mem_append_left _ (List.mem_filterMap.2 ⟨.tmp k, by simpa using hx, rfl⟩))
theorem wantedV_puts {ops : Array Oper} {o : Oper} {t : List V} {h h2 : List AObj} {d : Option Tmp} {v : V} (hd : ∀ k, d = some k → k ∉ o.looksAt ops) : wantedV ops ⟨puts t d v, h⟩ o = wantedV ops ⟨t, h2⟩ o := by
  unfold wantedV
  cases hg : o.guard with
  | none => rfl
  | some gw =>
    obtain ⟨g, want⟩ := gw
    simp only
    cases hb : (ops[g]?).bind (·.dst) with
    | none => rfl
    | some k =>
      have : (puts t d v)[k]? = t[k]? := by
        cases d with
        | none => rfl
        | some d =>
          have hne : d ≠ k := fun e => hd d rfl (List.mem_append_right _ (by simp only [hg, hb]; simp [e]))
          simp only [puts]
          exact List.getElem?_set_ne hne
      simp only [this]
def compat (tab : Nat → Option (Nat × Bool)) (p : Nat → Nat → Bool) (i j : Nat) : Bool :=
  (match tab i with
    | some (a, g) => !p j a && !(g && match tab j with | some (_, g') => g' | none => false)
    | none => true) &&
  (match tab j with
    | some (a, _) => !p i a
    | none => true)
theorem Eff.same {p : Nat → Bool} {tab : Nat → Option (Nat × Bool)} {i : Nat} {s : St} {eff : Eff} (hc : conf tab i s eff) (hp : ∀ a g, tab i = some (a, g) → p a = false) : Same p s.h (eff.app s.h) := fun b hb => by
  cases eff with
  | none => rfl
  | set a o =>
    have := hp a _ hc
    have hne : a ≠ b := fun e => by rw [e, hb] at this; cases this
    exact List.getElem?_set_ne hne
  | push o =>
    have := hp _ _ hc
    have hne : s.h.length ≠ b := fun e => by rw [e, hb] at this; cases this
    simp only [Eff.app]
    rcases Nat.lt_or_ge b s.h.length with h | h
    · exact List.getElem?_append_left h
    · rw [List.getElem?_eq_none (by simp; omega), List.getElem?_eq_none (by omega)]
theorem Same.symm {p : Nat → Bool} {h h2 : List AObj} (S : Same p h h2) : Same p h2 h := fun i hi => (S i hi).symm
theorem Eff.length_le {eff : Eff} {h : List AObj} (hg : eff.grows = false) : (eff.app h).length = h.length := by
  cases eff <;> simp_all [Eff.app, Eff.grows]
/-- Does j wait for i, at one remove or more? -/
def reachD (md : Region.Mode) (ops : Array Oper) (i : Nat) : Nat → Nat → Bool
  | 0, _ => false
  | f + 1, j => match ops[j]? with
    | some o => o.after.any fun e => Region.binds md e && (e.on == i || reachD md ops i f e.on)
    | none => false
/-- Which operations wait for i: found in one pass; the last one first. -/
def bkGo (md : Region.Mode) (i : Nat) : List Oper → Nat → List Bool → List Bool
  | [], _, acc => acc
  | o :: os, n, acc => match o.after.any (fun e => Region.binds md e && (e.on == i || (decide (e.on < n) && (acc[n - 1 - e.on]?).getD false))) with
    | true => bkGo md i os (n + 1) (true :: acc)
    | false => bkGo md i os (n + 1) (false :: acc)
def bkRow (md : Region.Mode) (ops : Array Oper) (i : Nat) : List Bool := bkGo md i ops.toList 0 []
def bkD (md : Region.Mode) (ops : Array Oper) (i j : Nat) : Bool := decide (j < ops.size) && ((bkRow md ops i)[ops.size - 1 - j]?).getD false
theorem bkGo_spec {md : Region.Mode} {ops : Array Oper} {i : Nat} : ∀ (os : List Oper) (n : Nat) (acc : List Bool), ops.toList.drop n = os → acc.length = n → (∀ j, j < n → acc[n - 1 - j]? = some true → ∃ f, reachD md ops i f j = true) →
    (bkGo md i os n acc).length = n + os.length ∧ ∀ j, j < n + os.length → (bkGo md i os n acc)[n + os.length - 1 - j]? = some true → ∃ f, reachD md ops i f j = true
  | [], n, acc, h, hl, ha => by simpa [bkGo, hl] using ha
  | o :: os, n, acc, h, hl, ha => by
    have ho : ops[n]? = some o := by
      have := congrArg (fun l => l[0]?) h
      simp only [List.getElem?_drop, Nat.add_zero, List.getElem?_cons_zero, Array.getElem?_toList] at this
      exact this
    have hd : ops.toList.drop (n + 1) = os := by
      have := congrArg (List.drop 1) h
      simpa [List.drop_drop] using this
    have key : ∀ b : Bool, (b = true → ∃ f, reachD md ops i f n = true) → (bkGo md i os (n + 1) (b :: acc)).length = n + (o :: os).length ∧ ∀ j, j < n + (o :: os).length → (bkGo md i os (n + 1) (b :: acc))[n + (o :: os).length - 1 - j]? = some true → ∃ f, reachD md ops i f j = true := fun b hb => by
      have := bkGo_spec os (n + 1) (b :: acc) hd (by simp [hl]) (fun j hj hg => by
        by_cases hjn : j = n
        · subst hjn
          rw [show j + 1 - 1 - j = 0 by omega] at hg
          simp only [List.getElem?_cons_zero, Option.some.injEq] at hg
          exact hb hg
        · rw [show n + 1 - 1 - j = (n - 1 - j) + 1 by omega, List.getElem?_cons_succ] at hg
          exact ha j (by omega) hg)
      rw [show n + (o :: os).length = n + 1 + os.length by simp; omega]
      exact this
    simp only [bkGo]
    split
    · rename_i hany
      refine key true fun _ => ?_
      obtain ⟨e, he, hb⟩ := Array.any_eq_true'.1 hany
      simp only [Bool.and_eq_true, Bool.or_eq_true, beq_iff_eq, decide_eq_true_eq] at hb
      rcases hb.2 with h1 | ⟨h1, h2⟩
      · refine ⟨1, ?_⟩
        simp only [reachD, ho]
        exact Array.any_eq_true'.2 ⟨e, he, by simp [hb.1, h1]⟩
      · obtain ⟨f, hf⟩ := ha e.on h1 (by
          cases hg : acc[n - 1 - e.on]? with
          | none => simp [hg] at h2
          | some b => simp [hg] at h2; rw [h2])
        refine ⟨f + 1, ?_⟩
        simp only [reachD, ho]
        exact Array.any_eq_true'.2 ⟨e, he, by simp [hb.1, hf]⟩
    · exact key false (fun h => by cases h)
theorem bkD_spec {md : Region.Mode} {ops : Array Oper} {i j : Nat} (h : bkD md ops i j = true) : ∃ f, reachD md ops i f j = true := by
  simp only [bkD, Bool.and_eq_true, decide_eq_true_eq] at h
  obtain ⟨hj, hg⟩ := h
  have := (bkGo_spec (md := md) (ops := ops) (i := i) ops.toList 0 [] rfl rfl (fun j hj => by omega)).2 j (by simpa using hj)
  simp only [Nat.zero_add, Array.length_toList] at this
  refine this ?_
  cases hb : (bkGo md i ops.toList 0 [])[ops.size - 1 - j]? with
  | none => simp [bkRow, hb] at hg
  | some b => simp [bkRow, hb] at hg; rw [hg]
def Bk (md : Region.Mode) (ops : Array Oper) (i j : Nat) : Prop := j = i ∨ ∃ f, reachD md ops i f j = true
theorem Bk.step {md : Region.Mode} {ops : Array Oper} {i j : Nat} {oj : Oper} (h : Bk md ops i j) (hj : ops[j]? = some oj) (hne : j ≠ i) : ∃ e ∈ oj.after, Region.binds md e = true ∧ Bk md ops i e.on := by
  rcases h with h | ⟨f, h⟩
  · exact absurd h hne
  · cases f with
    | zero => cases h
    | succ f =>
      simp only [reachD, hj] at h
      obtain ⟨e, he, hb⟩ := Array.any_eq_true'.1 h
      simp only [Bool.and_eq_true, Bool.or_eq_true, beq_iff_eq] at hb
      refine ⟨e, he, hb.1, ?_⟩
      rcases hb.2 with h1 | h1
      · exact .inl h1
      · exact .inr ⟨f, h1⟩
theorem AnyD.first {P : Program} {F : Facts P} {ops : Array Oper} {tab : Nat → Option (Nat × Bool)} {p : Nat → Nat → Bool} {md : Region.Mode} {K : St → Prop} {i : Nat} {oi : Oper} {v : V} {ei : Eff} (hi : ops[i]? = some oi) :
    ∀ (fuel : Nat) (listed : Array Bool) (s : St),
      (∀ j oj, ops[j]? = some oj → Bk md ops i j → listed.getD j true = false) →
      (∀ j oj, ops[j]? = some oj → j ≠ i → listed.getD j true = false → ¬ Bk md ops i j → oi.apart ops oj = true ∧ compat tab p i j = true) →
      i ∈ Region.ready md ops listed → Local F ops (p i) i oi s v ei → conf tab i s ei →
      AnyD F ops tab p md K fuel (listed.setIfInBounds i true) ⟨puts s.t oi.dst v, ei.app s.h⟩ → AnyD F ops tab p md K (fuel + 1) listed s := by
  intro fuel
  induction fuel with
  | zero =>
    intro listed s _ _ hr hL hc H
    refine ⟨fun h => (by rw [h] at hr; cases hr), fun j hj => ?_⟩
    by_cases hji : j = i
    · subst hji; exact ⟨oi, v, ei, hi, hL, hc, H⟩
    · have := ready_mono hj hji
      rw [H.1] at this
      cases this
  | succ fuel ih =>
    intro listed s hinv hfree hr hL hc H
    refine ⟨fun h => (by rw [h] at hr; cases hr), fun j hj => ?_⟩
    by_cases hji : j = i
    · subst hji; exact ⟨oi, v, ei, hi, hL, hc, H⟩
    · obtain ⟨oj, u, ej, hoj, hLj, hcj, HH⟩ := H.2 j (ready_mono hj hji)
      obtain ⟨hjun, oj', hoj', hall⟩ := mem_ready.1 hj
      rw [hoj] at hoj'; cases hoj'
      have hnot : ¬ Bk md ops i j := fun hbk => by
        obtain ⟨e, he, hb, hbk'⟩ := hbk.step hoj hji
        have h1 := hall e he hb
        have h0 : listed.getD e.on true = false := by
          rcases hbk' with h | ⟨f, h⟩
          · rw [h]; exact (mem_ready.1 hr).1
          · cases f with
            | zero => cases h
            | succ f =>
              have h' := h
              simp only [reachD] at h'
              split at h'
              · rename_i o' ho'
                exact hinv e.on o' ho' (.inr ⟨_, h⟩)
              · cases h'
        rcases Nat.lt_or_ge e.on listed.size with h' | h'
        · simp [h'] at h0 h1; rw [h0] at h1; cases h1
        · simp [Array.getElem?_eq_none h'] at h1
      obtain ⟨hap, hco⟩ := hfree j oj hoj hji hjun hnot
      obtain ⟨a1, a2, a3⟩ := Oper.apart_spec hap
      simp only [compat, Bool.and_eq_true] at hco
      have c1 : ∀ a g, tab i = some (a, g) → p j a = false := fun a g ht => by
        have := hco.1; rw [ht] at this; simp only [Bool.and_eq_true, Bool.not_eq_true'] at this; exact this.1
      have c2 : ∀ a g, tab j = some (a, g) → p i a = false := fun a g ht => by
        have := hco.2; rw [ht] at this; simpa using this
      have c3 : ∀ a b, tab i = some (a, true) → tab j = some (b, true) → False := fun a b h1 h2 => by
        have := hco.1; rw [h1, h2] at this; simp at this
      -- j, with i not done yet
      have growsI : ∀ o, ei = .push o → tab i = some (s.h.length, true) := fun o e => by rw [e] at hc; exact hc
      have hgr : ej.grows = true → ei.grows = false := fun g => by
        cases ej with
        | push o =>
          cases hei : ei with
          | push o' => exact absurd hcj (fun h => c3 _ _ (growsI _ hei) h)
          | _ => rfl
        | _ => cases g
      have hlen : ej.grows = true → s.h.length = (ei.app s.h).length := fun g => (Eff.length_le (hgr g)).symm
      have hLj' : Local F ops (p j) j oj s u ej := hLj.move (fun x hx => (ev_puts (looks_operands a1 hx)).symm) (wantedV_puts a1).symm (Eff.same hc c1).symm hlen
      have hcj' : conf tab j s ej := by
        cases ej with
        | none => trivial
        | set a o => exact hcj
        | push o =>
          have := hlen rfl
          simp only [conf] at hcj ⊢
          rw [this]; exact hcj
      have hlen2 : ei.grows = true → (ej.app s.h).length = s.h.length := fun g => Eff.length_le (by
        cases hej : ej.grows with
        | false => rfl
        | true => rw [hgr hej] at g; cases g)
      have hLi : Local F ops (p i) i oi ⟨puts s.t oj.dst u, ej.app s.h⟩ v ei := hL.move (fun x hx => ev_puts (looks_operands a3 hx)) (wantedV_puts a3) (Eff.same hcj' c2) hlen2
      have hci : conf tab i ⟨puts s.t oj.dst u, ej.app s.h⟩ ei := by
        cases ei with
        | none => trivial
        | set a o => exact hc
        | push o =>
          have := hlen2 rfl
          simp only [conf] at hc ⊢
          rw [this]; exact hc
      have hput : puts (puts s.t oi.dst v) oj.dst u = puts (puts s.t oj.dst u) oi.dst v := by
        cases hdi : oi.dst with
        | none => cases oj.dst <;> rfl
        | some di =>
          cases hdj : oj.dst with
          | none => rfl
          | some dj =>
            have hne : di ≠ dj := fun e => a2 di hdi (by rw [hdj, e])
            simp only [puts]
            exact List.set_comm _ _ hne
      have heff : ej.app (ei.app s.h) = ei.app (ej.app s.h) := by
        cases hei : ei with
        | none => cases ej <;> rfl
        | set a o =>
          cases hej : ej with
          | none => rfl
          | set b o' =>
            have h1 := (hL.tgt a o hei).1
            have h2 := c2 b false (by rw [hej] at hcj'; exact hcj')
            have hne : a ≠ b := fun e => by rw [e, h2] at h1; cases h1
            simp only [Eff.app]
            exact List.set_comm _ _ hne
          | push o' =>
            simp only [Eff.app]
            rw [List.set_append_left _ _ (hL.tgt a o hei).2]
        | push o =>
          cases hej : ej with
          | none => rfl
          | set b o' =>
            simp only [Eff.app]
            rw [List.set_append_left _ _ (hLj'.tgt b o' hej).2]
          | push o' => rw [hei] at hgr; exact absurd (hgr (by rw [hej]; rfl)) (by simp [Eff.grows])
      refine ⟨oj, u, ej, hoj, hLj', hcj', ih (listed.setIfInBounds j true) _ ?_ ?_ (ready_mono hr (Ne.symm hji)) hLi hci ?_⟩
      · intro k ok hk hbk
        have hjk : j ≠ k := fun e => hnot (e ▸ hbk)
        rw [getD_set_ne true hjk]; exact hinv k ok hk hbk
      · intro k ok hk hki hun hno
        refine hfree k ok hk hki ?_ hno
        by_cases hjk : j = k
        · subst hjk; exact hjun
        · rw [getD_set_ne true hjk] at hun; exact hun
      · rw [Array.setIfInBounds_comm _ _ hji]
        simp only
        rw [← hput, ← heff]
        exact HH
/-! ### the order of the text -/
def freeD (md : Region.Mode) (ops : Array Oper) (tab : Nat → Option (Nat × Bool)) (p : Nat → Nat → Bool) (listed : Array Bool) (i : Nat) : Bool :=
  match ops[i]? with
  | none => false
  | some oi => (List.range ops.size).all fun j => j == i || listed.getD j true || match ops[j]? with
      | some oj => oj.after.any (fun e => Region.binds md e && e.on == i) || (oi.apart ops oj && compat tab p i j) || bkD md ops i j
      | none => true
def lexD (md : Region.Mode) (ops : Array Oper) (tab : Nat → Option (Nat × Bool)) (p : Nat → Nat → Bool) : Nat → Nat → Array Bool → Bool
  | 0, _, listed => (Region.ready md ops listed).isEmpty
  | fuel + 1, k, listed => (Region.ready md ops listed).contains k && freeD md ops tab p listed k && lexD md ops tab p fuel (k + 1) (listed.setIfInBounds k true)
theorem freeD_spec {md : Region.Mode} {ops : Array Oper} {tab : Nat → Option (Nat × Bool)} {p : Nat → Nat → Bool} {i : Nat} {oi : Oper} {listed : Array Bool} (hi : ops[i]? = some oi) (h : freeD md ops tab p listed i = true) (j : Nat) (oj : Oper)
    (hj : ops[j]? = some oj) (hne : j ≠ i) (hun : listed.getD j true = false) (hno : ¬ Bk md ops i j) : oi.apart ops oj = true ∧ compat tab p i j = true := by
  simp only [freeD, hi, List.all_eq_true, List.mem_range] at h
  have h1 := h j (Array.getElem?_eq_some_iff.1 hj).1
  simp only [hj, Bool.or_eq_true, beq_iff_eq, hne, false_or, hun, Bool.false_eq_true, Bool.and_eq_true] at h1
  rcases h1 with (h1 | h1) | h1
  · exact absurd (.inr ⟨1, by simpa [reachD, hj] using h1⟩) hno
  · exact h1
  · exact absurd (.inr (bkD_spec h1)) hno
/-- What is listed has all listed that it waits for. -/
def Shut (md : Region.Mode) (ops : Array Oper) (listed : Array Bool) : Prop := ∀ m om, ops[m]? = some om → listed.getD m true = true → ∀ e ∈ om.after, Region.binds md e = true → listed.getD e.on false = true
theorem getD_sizes {listed : Array Bool} {k : Nat} (h : listed.getD k false = true) : listed.getD k true = true := by
  rcases Nat.lt_or_ge k listed.size with h' | h'
  · simpa [h'] using h
  · simp [Array.getElem?_eq_none h'] at h
theorem Shut.inv {md : Region.Mode} {ops : Array Oper} {listed : Array Bool} (hs : Shut md ops listed) {i : Nat} (hi : listed.getD i true = false) (j : Nat) (oj : Oper) (hj : ops[j]? = some oj) (hb : Bk md ops i j) : listed.getD j true = false := by
  have key : ∀ (f j : Nat) (oj : Oper), ops[j]? = some oj → reachD md ops i f j = true → listed.getD j true = false := by
    intro f
    induction f with
    | zero => intro j oj hj h; cases h
    | succ f ih =>
      intro j oj hj h
      simp only [reachD, hj] at h
      obtain ⟨e, he, hb⟩ := Array.any_eq_true'.1 h
      simp only [Bool.and_eq_true, Bool.or_eq_true, beq_iff_eq] at hb
      cases hl : listed.getD j true with
      | false => rfl
      | true =>
        exfalso
        have h1 := getD_sizes (hs j oj hj hl e he hb.1)
        rcases hb.2 with h2 | h2
        · rw [h2, hi] at h1; cases h1
        · cases f with
          | zero => cases h2
          | succ f =>
            have h3 := h2
            simp only [reachD] at h3
            split at h3
            · rename_i o' ho'
              rw [ih e.on o' ho' h2] at h1; cases h1
            · cases h3
  rcases hb with rfl | ⟨f, h⟩
  · exact hi
  · exact key f j oj hj h
theorem Shut.set {md : Region.Mode} {ops : Array Oper} {listed : Array Bool} (hs : Shut md ops listed) {k : Nat} (hr : k ∈ Region.ready md ops listed) : Shut md ops (listed.setIfInBounds k true) := by
  obtain ⟨hun, ok, hok, hall⟩ := mem_ready.1 hr
  have mono : ∀ m, listed.getD m false = true → (listed.setIfInBounds k true).getD m false = true := fun m hm => by
    by_cases hkm : k = m
    · subst hkm
      rcases Nat.lt_or_ge k listed.size with h' | h'
      · simp [h']
      · simp [Array.getElem?_eq_none h'] at hm
    · rw [getD_set_ne false hkm]; exact hm
  intro m om hm hl e he hb
  by_cases hkm : k = m
  · subst hkm
    rw [hok] at hm; cases hm
    exact mono _ (hall e he hb)
  · rw [getD_set_ne true hkm] at hl
    exact mono _ (hs m om hm hl e he hb)
/-- The walk in the order of the text. -/
def RegD {P : Program} (F : Facts P) (ops : Array Oper) (tab : Nat → Option (Nat × Bool)) (p : Nat → Nat → Bool) (K : St → Prop) : Nat → Nat → St → Prop
  | 0, _, s => K s
  | n + 1, i, s => ∃ o v eff, ops[i]? = some o ∧ Local F ops (p i) i o s v eff ∧ conf tab i s eff ∧ RegD F ops tab p K n (i + 1) ⟨puts s.t o.dst v, eff.app s.h⟩
theorem AnyD.of_lex {P : Program} {F : Facts P} {ops : Array Oper} {tab : Nat → Option (Nat × Bool)} {p : Nat → Nat → Bool} {md : Region.Mode} {K : St → Prop} : ∀ (n k : Nat) (listed : Array Bool) (s : St), Shut md ops listed → lexD md ops tab p n k listed = true → RegD F ops tab p K n k s → AnyD F ops tab p md K n listed s
  | 0, _, _, _, hs, hB, h => ⟨by simpa [lexD] using hB, h⟩
  | n + 1, k, listed, s, hs, hB, h => by
    simp only [lexD, Bool.and_eq_true] at hB
    obtain ⟨⟨hr, hf⟩, hB'⟩ := hB
    obtain ⟨o, v, eff, ho, hL, hc, hK⟩ := h
    have hr' : k ∈ Region.ready md ops listed := by simpa using hr
    exact AnyD.first ho n listed s (hs.inv (mem_ready.1 hr').1) (freeD_spec ho hf) hr' hL hc (AnyD.of_lex n (k + 1) _ _ (hs.set hr') hB' hK)
theorem below_drawn (w : World) (k : Nat) : Below w.heap.size w { w with drawn := k } := ⟨rfl, rfl, rfl, Nat.le_refl _, fun _ _ => rfl⟩
theorem T_regionD {P : Program} {b : Nat} {ro : Option Nat} {s : St} {K : Exit → St → Prop} {id : Nat} {ops : Array Oper} {F : Facts P} {tab : Nat → Option (Nat × Bool)} {p : Nat → Nat → Bool} (hB : lexD .any ops tab p ops.size 0 (Array.replicate ops.size false) = true)
    (h : RegD F ops tab p (K .normal) ops.size 0 s) : T P b ro (.region id ops true) s K := fun C E0 m a w hb L S => by
  refine wpIn_region_any F.mixed ?_
  have S' := S.world (below_drawn w (w.drawn + 1))
  exact AnyD.sound ro _ (AnyD.of_lex _ _ _ _ (fun m om hm hl => by have := (Array.getElem?_eq_some_iff.1 hm).1; simp [this] at hl) hB h) S' (fun s' m' a' w' hk S2 L2 => ⟨s', m', hk, S2, (L.trans (up_world (below_drawn w (w.drawn + 1))).leN).trans L2⟩)
end Go.Ab
