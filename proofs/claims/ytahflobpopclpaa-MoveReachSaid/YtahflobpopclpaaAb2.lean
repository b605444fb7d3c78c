import Derived.Test.YtahflobpopclpaaAb1
namespace Go.Ab
open Go Go.RowKit
set_option linter.unusedVariables false

structure St where
  t : List V
  h : List AObj
structure Ctx where
  out : Nat → Prop
  w0 : World
  at0 : Nat
  base : List Deferred
def AObj.live : AObj → Bool
  | .box _ _ | .map _ | .que _ _ _ | .loop .. => true
  | .arr _ _ _ fr => !fr
  | .dead => false
def blk : Value → Option Nat
  | .pointer (some a) => some a.block
  | .slice (some a) _ _ => some a.block
  | .map r => r
  | .func (.yield b) _ _ => some b
  | _ => none
def env (C : Ctx) (h : List AObj) (m : List Value) (w : World) : Env :=
  { bad := fun b => C.out b ∨ ∃ (i : Nat) (o : AObj) (v : Value), h[i]? = some o ∧ o.live = true ∧ m[i]? = some v ∧ blk v = some b, m, h, w }
def RelObj (C : Ctx) (E : Env) (v : Value) : AObj → Prop
  | .box T cs => ∃ b vs, v = .pointer (some ⟨b, 0, none⟩) ∧ C.w0.heap.size ≤ b ∧ E.w.heap[b]? = some (.cells vs T (0, 0)) ∧ RelL E cs vs.toList
  | .arr T sz rows fr => ∃ us, E.w.ownsRow C.w0.heap.size T sz v rows.length us ∧ RelL E rows.flatten us ∧ (∀ r ∈ rows, r.length = sz)
  | .map es => ∃ b clock es', v = .map (some b) ∧ C.w0.heap.size ≤ b ∧ E.w.heap[b]? = some (.map es' clock) ∧ RelL E (es.map (·.1)) (es'.toList.map (·.key)) ∧ RelL E (es.map (·.2)) (es'.toList.map (·.val))
  | .que T sz rows => ∃ us j, j ≤ rows.length ∧ E.w.ownsRow C.w0.heap.size T sz v (rows.length - j) us ∧ RelL E (rows.drop j).flatten us ∧ (∀ r ∈ rows, r.length = sz)
  | .loop st pe t ps as bd => ∃ b fn us df, v = .func (.yield b) #[] #[] ∧ C.w0.heap.size ≤ b ∧ E.w.heap[b]? = some (.loop { state := st, pending := pe, fn, tmps := us, params := ps, assign := as, body := bd, defers := df }) ∧ RelL E t us.toList
  | .dead => True
/-- The calls that this activation has put off: the marks of its loops over functions, with nothing behind them. -/
def Mark (C : Ctx) (E : Env) (d : Deferred) : Prop := ∃ b, d = { target := .collected b, args := #[] } ∧ C.at0 ≤ b ∧ b < E.w.heap.size ∧ ¬ E.bad b ∧ E.w.heap[b]? = some (.deferred (some []))
def Marks (C : Ctx) (E : Env) (ds : List Deferred) : Prop :=
  (C.w0.heap.size ≤ C.at0 ∧ C.at0 ≤ E.w.heap.size) ∧ ∃ ms, ds = ms ++ C.base ∧ (∀ d ∈ ms, Mark C E d) ∧ ms.Pairwise (fun x y => x.target ≠ y.target)
theorem Mark.le {C : Ctx} {p : Nat → Bool} {E E' : Env} {d : Deferred} (L : Env.Le p E E') (h : Mark C E d) : Mark C E' d := by
  obtain ⟨b, h1, h2, h3, h4, h5⟩ := h
  exact ⟨b, h1, h2, Nat.lt_of_lt_of_le h3 L.sz, fun hb => h4 (L.nb b h3 hb), (L.wk b h3 h4).trans h5⟩
theorem Marks.le {C : Ctx} {p : Nat → Bool} {E E' : Env} {ds : List Deferred} (L : Env.Le p E E') (h : Marks C E ds) : Marks C E' ds := by
  obtain ⟨h1, ms, h2, h3, h4⟩ := h
  exact ⟨⟨h1.1, Nat.le_trans h1.2 L.sz⟩, ms, h2, fun d hd => (h3 d hd).le L, h4⟩
theorem Marks.nil {C : Ctx} {E : Env} (h1 : C.w0.heap.size ≤ C.at0) (h2 : C.at0 ≤ E.w.heap.size) : Marks C E C.base := ⟨⟨h1, h2⟩, [], rfl, fun d hd => by simp at hd, List.Pairwise.nil⟩
structure Sim (C : Ctx) (s : St) (m : List Value) (a : Act) (w : World) : Prop where
  below : Below C.w0.heap.size C.w0 w
  out : ∀ b, C.out b → b < C.w0.heap.size
  len : m.length = s.h.length
  slots : RelL (env C s.h m w) s.t a.tmps.toList
  defers : Marks C (env C s.h m w) a.defers
  objs : ∀ (i : Nat) o v, s.h[i]? = some o → m[i]? = some v → RelObj C (env C s.h m w) v o
  apart : ∀ (i j : Nat) v u b, i ≠ j → m[i]? = some v → m[j]? = some u → blk v = some b → blk u ≠ some b
  low : ∀ (i : Nat) v b, m[i]? = some v → blk v = some b → C.w0.heap.size ≤ b ∧ b < w.heap.size

theorem RelL.length {E : Env} : ∀ {xs : List V} {vs : List Value}, RelL E xs vs → xs.length = vs.length
  | [], vs, h => by simp only [RelL] at h; simp [h]
  | c :: cs, vs, h => by
    simp only [RelL] at h
    obtain ⟨u, us, rfl, _, h2⟩ := h
    simp [RelL.length h2]
theorem RelL.get {E : Env} : ∀ {xs : List V} {vs : List Value} (k : Nat) {x : V}, RelL E xs vs → xs[k]? = some x → ∃ u, vs[k]? = some u ∧ Rel E x u
  | [], vs, k, x, h, hx => by simp at hx
  | c :: cs, vs, k, x, h, hx => by
    simp only [RelL] at h
    obtain ⟨u, us, rfl, h1, h2⟩ := h
    cases k with
    | zero => simp at hx; subst hx; exact ⟨u, by simp, h1⟩
    | succ k => simp at hx; obtain ⟨u', hu, hr⟩ := RelL.get k h2 hx; exact ⟨u', by simpa using hu, hr⟩
theorem RelL.set {E : Env} : ∀ {xs : List V} {vs : List Value} (k : Nat) {x : V} {u : Value}, RelL E xs vs → Rel E x u → RelL E (xs.set k x) (vs.set k u)
  | [], vs, k, x, u, h, hx => by simp only [RelL] at h; subst h; simp [RelL]
  | c :: cs, vs, k, x, u, h, hx => by
    simp only [RelL] at h
    obtain ⟨u', us, rfl, h1, h2⟩ := h
    cases k with
    | zero => simp only [List.set_cons_zero, RelL]; exact ⟨u, us, rfl, hx, h2⟩
    | succ k => simp only [List.set_cons_succ, RelL]; exact ⟨u', _, rfl, h1, RelL.set k h2 hx⟩
theorem RelL.append {E : Env} : ∀ {xs ys : List V} {vs us : List Value}, RelL E xs vs → RelL E ys us → RelL E (xs ++ ys) (vs ++ us)
  | [], ys, vs, us, h, k => by simp only [RelL] at h; subst h; simpa using k
  | c :: cs, ys, vs, us, h, k => by
    simp only [RelL, List.cons_append] at *
    obtain ⟨u, us', rfl, h1, h2⟩ := h
    exact ⟨u, us' ++ us, rfl, h1, RelL.append h2 k⟩
theorem RelL.split {E : Env} : ∀ {xs ys : List V} {vs : List Value}, RelL E (xs ++ ys) vs → ∃ a b, vs = a ++ b ∧ RelL E xs a ∧ RelL E ys b
  | [], ys, vs, h => ⟨[], vs, rfl, by simp [RelL], h⟩
  | c :: cs, ys, vs, h => by
    simp only [RelL, List.cons_append] at h
    obtain ⟨u, us, rfl, h1, h2⟩ := h
    obtain ⟨a, b, rfl, ha, hb⟩ := RelL.split h2
    exact ⟨u :: a, b, rfl, by simp only [RelL]; exact ⟨u, a, rfl, h1, ha⟩, hb⟩

theorem cells_lt {w : World} {b : Nat} {o : Obj} (h : w.heap[b]? = some o) : b < w.heap.size := (Array.getElem?_eq_some_iff.1 h).1
theorem RelL.le {E E' : Env} (L : Env.Le (fun _ => true) E E') {xs : List V} {vs : List Value} (h : RelL E xs vs) : RelL E' xs vs := RelL.mono L xs vs (V.allL_true xs) h
theorem Rel.le {E E' : Env} (L : Env.Le (fun _ => true) E E') {x : V} {v : Value} (h : Rel E x v) : Rel E' x v := Rel.mono L x v (V.all_true x) h
theorem RelObj.keep {C : Ctx} {E E' : Env} {v : Value} {o : AObj} (L : Env.Le (fun _ => true) E E') (hb : ∀ b, blk v = some b → E'.w.heap[b]? = E.w.heap[b]?) (h : RelObj C E v o) : RelObj C E' v o := by
  cases o with
  | box T cs =>
    obtain ⟨b, vs, rfl, h1, h2, h3⟩ := h
    exact ⟨b, vs, rfl, h1, (hb b rfl).trans h2, h3.le L⟩
  | arr T sz rows fr =>
    obtain ⟨us, ⟨h0, h1⟩, h2, h3⟩ := h
    refine ⟨us, ⟨h0, ?_⟩, h2.le L, h3⟩
    rcases h1 with h1 | ⟨g, cap, cur, rfl, hg, hh, hr⟩
    · exact .inl h1
    · exact .inr ⟨g, cap, cur, rfl, hg, (hb g rfl).trans hh, hr⟩
  | map es =>
    obtain ⟨b, clock, es', rfl, h1, h2, h3, h4⟩ := h
    exact ⟨b, clock, es', rfl, h1, (hb b rfl).trans h2, h3.le L, h4.le L⟩
  | que T sz rows =>
    obtain ⟨us, j, hj, ⟨h0, h1⟩, h2, h3⟩ := h
    refine ⟨us, j, hj, ⟨h0, ?_⟩, h2.le L, h3⟩
    rcases h1 with h1 | ⟨g, cap, cur, rfl, hg, hh, hr⟩
    · exact .inl h1
    · exact .inr ⟨g, cap, cur, rfl, hg, (hb g rfl).trans hh, hr⟩
  | loop st pe t ps as bd =>
    obtain ⟨b, fn, us, df, rfl, h1, h2, h3⟩ := h
    exact ⟨b, fn, us, df, rfl, h1, (hb b rfl).trans h2, h3.le L⟩
  | dead => trivial
/-- The world has grown, or orders were drawn; nothing that was there has changed. -/
theorem Sim.world {C : Ctx} {s : St} {m : List Value} {a : Act} {w w1 : World} (S : Sim C s m a w) (hb : Below w.heap.size w w1) : Sim C s m a w1 := by
  have L : Env.Le (fun _ => true) (env C s.h m w) (env C s.h m w1) :=
    ⟨fun b _ h => h, fun b hb' _ => hb.block b hb', hb.size, fun i _ v h _ => h, fun i _ h => ⟨h, fun T sz rows fr ho => ⟨T, rows, fr, ho, Nat.le_refl _, fun _ => rfl⟩⟩, fun i _ T sz rows ho => ⟨rows, ho, Nat.le_refl _, fun _ => rfl⟩⟩
  refine ⟨S.below.trans (hb.mono S.below.size), S.out, S.len, S.slots.le L, S.defers.le L, fun i o v ho hv => ?_, S.apart, fun i v b hv hbk => ⟨(S.low i v b hv hbk).1, Nat.lt_of_lt_of_le (S.low i v b hv hbk).2 hb.size⟩⟩
  exact RelObj.keep L (fun b hbk => hb.block b (S.low i v b hv hbk).2) (S.objs i o v ho hv)
/-- A slot is written. -/
theorem Sim.put {C : Ctx} {s : St} {m : List Value} {a : Act} {w : World} (S : Sim C s m a w) (d : Option Tmp) {x : V} {u : Value} (h : Rel (env C s.h m w) x u) :
    Sim C ⟨match d with | some d => s.t.set d x | none => s.t, s.h⟩ m (a.put d u) w := by
  cases d with
  | none => exact ⟨S.below, S.out, S.len, S.slots, S.defers, S.objs, S.apart, S.low⟩
  | some d =>
    refine ⟨S.below, S.out, S.len, ?_, S.defers, S.objs, S.apart, S.low⟩
    have := RelL.set d S.slots h
    simpa [Act.put, Array.toList_setIfInBounds] using this
/-- The heap has grown, or changed where it may. -/
def Up (E E' : Env) : Prop := E.h.length ≤ E'.h.length ∧ Env.Le (fun _ => true) E E'
theorem Env.Le.rfl' (p : Nat → Bool) (E : Env) : Env.Le p E E :=
  ⟨fun _ _ h => h, fun _ _ _ => rfl, Nat.le_refl _, fun _ _ _ h _ => h, fun i _ h => ⟨h, fun T sz rows fr ho => ⟨T, rows, fr, ho, Nat.le_refl _, fun _ => rfl⟩⟩, fun i _ T sz rows ho => ⟨rows, ho, Nat.le_refl _, fun _ => rfl⟩⟩
theorem Up.refl (E : Env) : Up E E := ⟨Nat.le_refl _, Env.Le.rfl' _ _⟩
theorem up_world {C : Ctx} {h : List AObj} {m : List Value} {w w1 : World} (hb : Below w.heap.size w w1) : Up (env C h m w) (env C h m w1) :=
  ⟨Nat.le_refl _, ⟨fun b _ h => h, fun b hb' _ => hb.block b hb', hb.size, fun i _ v h _ => h, fun i _ h => ⟨h, fun T sz rows fr ho => ⟨T, rows, fr, ho, Nat.le_refl _, fun _ => rfl⟩⟩, fun i _ T sz rows ho => ⟨rows, ho, Nat.le_refl _, fun _ => rfl⟩⟩⟩
/-- A new object. -/
theorem Sim.add {C : Ctx} {s : St} {m : List Value} {a : Act} {w w' : World} (S : Sim C s m a w) {o : AObj} {v : Value} (hb : Below w.heap.size w w')
    (hv : ∀ b, blk v = some b → w.heap.size ≤ b ∧ b < w'.heap.size) (ho : Env.Le (fun _ => true) (env C s.h m w) (env C (s.h ++ [o]) (m ++ [v]) w') → RelObj C (env C (s.h ++ [o]) (m ++ [v]) w') v o) :
    Sim C ⟨s.t, s.h ++ [o]⟩ (m ++ [v]) a w' ∧ Up (env C s.h m w) (env C (s.h ++ [o]) (m ++ [v]) w') := by
  have hl := S.len
  have L : Env.Le (fun _ => true) (env C s.h m w) (env C (s.h ++ [o]) (m ++ [v]) w') := by
    refine ⟨fun b hlt h => ?_, fun b hb' _ => hb.block b hb', hb.size, fun i _ u h _ => ?_, fun i _ h => ⟨by simp only [env] at *; simp; omega, fun T sz rows fr ho => ⟨T, rows, fr, ?_, Nat.le_refl _, fun _ => ?_⟩⟩, fun i _ T sz rows ho => ⟨rows, ?_, Nat.le_refl _, fun _ => ?_⟩⟩
    · rcases h with h | ⟨i, o', v', h1, h2, h3, h4⟩
      · exact .inl h
      · rcases Nat.lt_or_ge i s.h.length with hi | hi
        · rw [List.getElem?_append_left hi] at h1
          rw [List.getElem?_append_left (by omega)] at h3
          exact .inr ⟨i, o', v', h1, h2, h3, h4⟩
        · rw [List.getElem?_append_right (by omega)] at h3
          rcases hk : i - m.length with _ | k
          · simp [hk] at h3
            subst h3
            have := (hv b h4).1
            simp only [env] at hlt
            omega
          · simp [hk] at h3
    · simp only [env] at *
      rw [List.getElem?_append_left (List.getElem?_eq_some_iff.1 h).1]; exact h
    · simp only [env] at *
      rw [List.getElem?_append_left h] at ho; exact ho
    · simp only [env] at *
      rw [List.getElem?_append_left (by omega)]
    · simp only [env] at *
      rw [List.getElem?_append_left (List.getElem?_eq_some_iff.1 ho).1]; exact ho
    · simp only [env] at *
      have := (List.getElem?_eq_some_iff.1 ho).1
      rw [List.getElem?_append_left (by omega)]
  refine ⟨⟨S.below.trans (hb.mono S.below.size), S.out, by simp [hl], S.slots.le L, S.defers.le L, fun i o' v' h1 h2 => ?_, fun i j x y b hij hx hy hbx => ?_, fun i x b hx hbx => ?_⟩, ⟨by simp [env], L⟩⟩
  · rcases Nat.lt_or_ge i s.h.length with hi | hi
    · rw [List.getElem?_append_left hi] at h1
      rw [List.getElem?_append_left (by omega)] at h2
      exact RelObj.keep L (fun b hbk => hb.block b (S.low i v' b h2 hbk).2) (S.objs i o' v' h1 h2)
    · rw [List.getElem?_append_right hi] at h1
      rw [List.getElem?_append_right (by omega)] at h2
      rcases hk : i - m.length with _ | k
      · have hk' : i - s.h.length = 0 := by omega
        simp [hk] at h2; simp [hk'] at h1
        subst h1; subst h2; exact ho L
      · simp [hk] at h2
  · have old : ∀ (i : Nat) x b, m[i]? = some x → blk x = some b → b < w.heap.size := fun i x b hx hb' => (S.low i x b hx hb').2
    rcases Nat.lt_or_ge i m.length with hi | hi <;> rcases Nat.lt_or_ge j m.length with hj | hj
    · rw [List.getElem?_append_left hi] at hx; rw [List.getElem?_append_left hj] at hy; exact S.apart i j x y b hij hx hy hbx
    · rw [List.getElem?_append_left hi] at hx; rw [List.getElem?_append_right hj] at hy
      rcases hk : j - m.length with _ | k
      · simp [hk] at hy; subst hy
        intro hby
        have h1 := (hv b hby).1
        have h2 := old i x b hx hbx
        omega
      · simp [hk] at hy
    · rw [List.getElem?_append_right hi] at hx; rw [List.getElem?_append_left hj] at hy
      rcases hk : i - m.length with _ | k
      · simp [hk] at hx; subst hx
        intro hby
        have h1 := (hv b hbx).1
        have h2 := old j y b hy hby
        omega
      · simp [hk] at hx
    · rw [List.getElem?_append_right hi] at hx; rw [List.getElem?_append_right hj] at hy
      rcases hk : i - m.length with _ | k
      · rcases hk' : j - m.length with _ | k'
        · omega
        · simp [hk'] at hy
      · simp [hk] at hx
  · rcases Nat.lt_or_ge i m.length with hi | hi
    · rw [List.getElem?_append_left hi] at hx
      have := S.low i x b hx hbx
      exact ⟨this.1, Nat.lt_of_lt_of_le this.2 hb.size⟩
    · rw [List.getElem?_append_right hi] at hx
      rcases hk : i - m.length with _ | k
      · simp [hk] at hx; subst hx
        have := hv b hbx
        exact ⟨Nat.le_trans S.below.size this.1, this.2⟩
      · simp [hk] at hx
/-- What may become of an object. -/
def Turn (o : AObj) (v : Value) (o' : AObj) (v' : Value) : Prop :=
  (∃ T cs cs', o = .box T cs ∧ o' = .box T cs' ∧ v' = v) ∨
  (∃ T sz rows rows' fr fr', o = .arr T sz rows fr ∧ o' = .arr T sz rows' fr' ∧ rows.length ≤ rows'.length ∧ (rows.length = rows'.length → v' = v)) ∨
  (∃ es es', o = .map es ∧ o' = .map es' ∧ v' = v) ∨
  (∃ T sz rows rows', o = .que T sz rows ∧ o' = .que T sz rows' ∧ rows.length ≤ rows'.length ∧ (rows.length = rows'.length → v' = v)) ∨
  (∃ st pe t ps as bd st' pe' t', o = .loop st pe t ps as bd ∧ o' = .loop st' pe' t' ps as bd ∧ v' = v)
/-- An object turns. -/
theorem Sim.turn {C : Ctx} {s : St} {m : List Value} {a : Act} {w w' : World} (S : Sim C s m a w) {i : Nat} {o o' : AObj} {v v' : Value} (hi : s.h[i]? = some o) (hm : m[i]? = some v) (hlive : o.live = true)
    (hT : Turn o v o' v') (hb : w.grownBy w' (blk v)) (hv : blk v' = blk v ∨ ∀ b, blk v' = some b → w.heap.size ≤ b ∧ b < w'.heap.size)
    (ho : Env.Le (fun _ => true) (env C s.h m w) (env C (s.h.set i o') (m.set i v') w') → RelObj C (env C (s.h.set i o') (m.set i v') w') v' o') :
    Sim C ⟨s.t, s.h.set i o'⟩ (m.set i v') a w' ∧ Up (env C s.h m w) (env C (s.h.set i o') (m.set i v') w') := by
  have hl := S.len
  have hih : i < s.h.length := (List.getElem?_eq_some_iff.1 hi).1
  have him : i < m.length := (List.getElem?_eq_some_iff.1 hm).1
  have L : Env.Le (fun _ => true) (env C s.h m w) (env C (s.h.set i o') (m.set i v') w') := by
    refine ⟨fun b hlt h => ?_, fun b hb' hnb => ?_, hb.size, fun j _ u h hns => ?_, fun j _ h => ⟨by simp only [env] at *; simpa using h, fun T sz rows fr hj => ?_⟩, fun j _ T sz rows hj => ?_⟩
    · rcases h with h | ⟨j, o1, v1, h1, h2, h3, h4⟩
      · exact .inl h
      · by_cases hji : i = j
        · subst hji
          rw [List.getElem?_set_self hih] at h1
          rw [List.getElem?_set_self him] at h3
          cases h1; cases h3
          rcases hv with hv | hv
          · exact .inr ⟨i, o, v, hi, hlive, hm, by rw [← hv]; exact h4⟩
          · have := (hv b h4).1
            simp only [env] at hlt
            omega
        · rw [List.getElem?_set_ne hji] at h1 h3
          exact .inr ⟨j, o1, v1, h1, h2, h3, h4⟩
    · refine hb.block b hb' (fun e => hnb ?_)
      exact .inr ⟨i, o, v, hi, hlive, hm, e.symm⟩
    · simp only [env] at *
      by_cases hji : i = j
      · subst hji
        rw [hm] at h; cases h
        rw [List.getElem?_set_self him]
        rcases hT with ⟨T, cs, cs', rfl, rfl, rfl⟩ | ⟨T, sz, rows, rows', fr, fr', rfl, rfl, hle, he⟩ | ⟨es, es', rfl, rfl, rfl⟩ | ⟨T, sz, rows, rows', rfl, rfl, hle, he⟩ | ⟨_, _, _, _, _, _, _, _, _, rfl, rfl, rfl⟩
        · rfl
        · exfalso
          obtain ⟨us, ⟨h0, h1⟩, _⟩ := S.objs i _ v hi hm
          rcases h1 with ⟨rfl, _⟩ | ⟨g, cap, cur, rfl, _⟩ <;> exact hns _ _ _ rfl
        · rfl
        · exfalso
          obtain ⟨us, j, _, ⟨h0, h1⟩, _⟩ := S.objs i _ v hi hm
          rcases h1 with ⟨rfl, _⟩ | ⟨g, cap, cur, rfl, _⟩ <;> exact hns _ _ _ rfl
        · rfl
      · rw [List.getElem?_set_ne hji]; exact h
    · simp only [env] at *
      by_cases hji : i = j
      · subst hji
        rw [List.getElem?_set_self hih] at hj
        cases hj
        rcases hT with ⟨_, _, _, _, h, _⟩ | ⟨T0, sz0, rows0, rows0', fr0, fr0', rfl, h, hle, he⟩ | ⟨_, _, _, h, _⟩ | ⟨_, _, _, _, _, h, _⟩ | ⟨_, _, _, _, _, _, _, _, _, _, h, _⟩
        · cases h
        · cases h
          exact ⟨_, _, _, hi, hle, fun h => by rw [List.getElem?_set_self him, hm, he h]⟩
        · cases h
        · cases h
        · cases h
      · rw [List.getElem?_set_ne hji] at hj
        exact ⟨_, _, _, hj, Nat.le_refl _, fun _ => by rw [List.getElem?_set_ne hji]⟩
    · simp only [env] at *
      by_cases hji : i = j
      · subst hji
        rw [hi] at hj; cases hj
        rw [List.getElem?_set_self hih, List.getElem?_set_self him, hm]
        rcases hT with ⟨_, _, _, h, _⟩ | ⟨_, _, _, _, _, _, h, _⟩ | ⟨_, _, h, _⟩ | ⟨T0, sz0, rows0, rows0', h, h', hle, he⟩ | ⟨_, _, _, _, _, _, _, _, _, h, _⟩
        · cases h
        · cases h
        · cases h
        · cases h
          exact ⟨rows0', by rw [h'], hle, fun h => by rw [he h]⟩
        · cases h
      · rw [List.getElem?_set_ne hji, List.getElem?_set_ne hji]
        exact ⟨rows, hj, Nat.le_refl _, fun _ => rfl⟩
  have hlowi := S.low i v
  have hbl : ∀ b, blk v = some b → C.w0.heap.size ≤ b ∧ b < w.heap.size := fun b h => S.low i v b hm h
  have bel : Below C.w0.heap.size C.w0 w' := S.below.grown hb S.below.size (fun k hk => (hbl k hk).1)
  refine ⟨⟨bel, S.out, by simp [hl], S.slots.le L, S.defers.le L, fun j o1 v1 h1 h2 => ?_, fun j k x y b hjk hx hy hbx => ?_, fun j x b hx hbx => ?_⟩, ⟨by simp [env], L⟩⟩
  · by_cases hji : i = j
    · subst hji
      simp only at h1 h2
      rw [List.getElem?_set_self hih] at h1
      rw [List.getElem?_set_self him] at h2
      cases h1; cases h2
      exact ho L
    · simp only at h1 h2
      rw [List.getElem?_set_ne hji] at h1 h2
      refine RelObj.keep L (fun b hbk => ?_) (S.objs j o1 v1 h1 h2)
      exact hb.block b (S.low j v1 b h2 hbk).2 (fun e => S.apart j i v1 v b (Ne.symm hji) h2 hm hbk e.symm)
  · have cross : ∀ (j : Nat) y b, i ≠ j → m[j]? = some y → blk v' = some b → blk y ≠ some b := fun j y b hij hy hb1 hb2 => by
      rcases hv with hv | hv
      · exact S.apart i j v y b hij hm hy (by rw [← hv]; exact hb1) hb2
      · have h1 := (hv b hb1).1
        have h2 := (S.low j y b hy hb2).2
        omega
    by_cases h1 : i = j
    · subst h1
      rw [List.getElem?_set_self him] at hx; cases hx
      rw [List.getElem?_set_ne hjk] at hy
      exact cross k y b hjk hy hbx
    · rw [List.getElem?_set_ne h1] at hx
      by_cases h2 : i = k
      · subst h2
        rw [List.getElem?_set_self him] at hy; cases hy
        exact fun h => cross j x b h1 hx h hbx
      · rw [List.getElem?_set_ne h2] at hy
        exact S.apart j k x y b hjk hx hy hbx
  · by_cases h1 : i = j
    · subst h1
      rw [List.getElem?_set_self him] at hx; cases hx
      rcases hv with hv | hv
      · rw [hv] at hbx
        exact ⟨(hbl b hbx).1, Nat.lt_of_lt_of_le (hbl b hbx).2 hb.size⟩
      · exact ⟨Nat.le_trans S.below.size (hv b hbx).1, (hv b hbx).2⟩
    · rw [List.getElem?_set_ne h1] at hx
      have := S.low j x b hx hbx
      exact ⟨this.1, Nat.lt_of_lt_of_le this.2 hb.size⟩
end Go.Ab
