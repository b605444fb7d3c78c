import Derived.Test.YtahflobpopclpaaAb10
namespace Go.Ab
open Go Go.RowKit
set_option linter.unusedVariables false

def ev (s : St) : Operand → Option V
  | .tmp t => s.t[t]?
  | .const v => ofValue v
  | .func f => some (.fn f [] [])
  | .global _ => none
theorem ev_sound {C : Ctx} {s : St} {m : List Value} {a : Act} {w : World} (S : Sim C s m a w) {x : Operand} {v : V} (h : ev s x = some v) : Rel (env C s.h m w) v (a.eval x) := by
  cases x with
  | tmp t =>
    simp only [ev] at h
    obtain ⟨u, hu, hr⟩ := RelL.get t S.slots h
    have : a.tmps.getD t undef = u := by
      have := hu
      simp only [Array.getElem?_toList] at this
      simp [Array.getD_eq_getD_getElem?, this]
    simpa only [Act.eval, this] using hr
  | const c => exact ofValue_sound h
  | func f =>
    simp only [ev, Option.some.injEq] at h; subst h
    simp only [Rel, Act.eval]
    exact ⟨#[], #[], rfl, by simp [RelL], by simp [RelL]⟩
  | global g => cases h
def evs (s : St) : List Operand → Option (List V)
  | [] => some []
  | x :: xs => match ev s x, evs s xs with
    | some v, some vs => some (v :: vs)
    | _, _ => none
theorem evs_sound {C : Ctx} {s : St} {m : List Value} {a : Act} {w : World} (S : Sim C s m a w) : ∀ {xs : List Operand} {vs : List V}, evs s xs = some vs → RelL (env C s.h m w) vs (xs.map a.eval)
  | [], vs, h => by simp only [evs, Option.some.injEq] at h; subst h; simp [RelL]
  | x :: xs, vs, h => by
    simp only [evs] at h
    split at h
    · rename_i v vs' h1 h2
      simp only [Option.some.injEq] at h; subst h
      simp only [List.map_cons, RelL]
      exact ⟨_, _, rfl, ev_sound S h1, evs_sound S h2⟩
    · cases h
def evp (s : St) : List (Nat × Operand) → Option (List (Nat × V))
  | [] => some []
  | (i, x) :: xs => match ev s x, evp s xs with
    | some v, some vs => some ((i, v) :: vs)
    | _, _ => none
theorem evp_sound {C : Ctx} {s : St} {m : List Value} {a : Act} {w : World} (S : Sim C s m a w) : ∀ {xs : List (Nat × Operand)} {vs : List (Nat × V)}, evp s xs = some vs →
    vs.length = (xs.map fun (i, x) => (i, a.eval x)).length ∧ ∀ (k : Nat) i v, vs[k]? = some (i, v) → ∃ u, (xs.map fun (i, x) => (i, a.eval x))[k]? = some (i, u) ∧ Rel (env C s.h m w) v u
  | [], vs, h => by simp only [evp, Option.some.injEq] at h; subst h; simp
  | (j, x) :: xs, vs, h => by
    simp only [evp] at h
    split at h
    · rename_i v vs' h1 h2
      simp only [Option.some.injEq] at h; subst h
      obtain ⟨h3, h4⟩ := evp_sound S h2
      refine ⟨by simpa using h3, fun k i v hk => ?_⟩
      cases k with
      | zero => simp at hk; obtain ⟨rfl, rfl⟩ := hk; exact ⟨_, by simp, ev_sound S h1⟩
      | succ k => simp at hk; obtain ⟨u, hu, hr⟩ := h4 k i v hk; exact ⟨u, by simpa using hu, hr⟩
    · cases h
def lenV (P : Program) (h : List AObj) (T : TypeId) (x : V) : Option V :=
  match P.underlying T, x with
  | some (.slice _), .nil => some (.int .i64 0)
  | some (.slice _), .sl _ rows => some (.int .i64 rows.length)
  | some (.slice _), .arr i n => if cur h x then some (.int .i64 n) else none
  | some (.slice _), .arrd i n k => if cur h x then some (.int .i64 ((n - k : Nat) : Int)) else none
  | _, _ => none
theorem lenV_sound {P : Program} {C : Ctx} {s : St} {m : List Value} {a : Act} {w : World} (S : Sim C s m a w) {T ty : TypeId} {x z : V} {u : Value} (hx : Rel (env C s.h m w) x u) (h : lenV P s.h T x = some z) :
    ∃ u', (Builtin.len_ #[T] ty #[u]).run P w = .ok u' w ∧ Rel (env C s.h m w) z u' := by
  unfold lenV at h
  split at h
  · rename_i e hu
    simp only [Option.some.injEq] at h; subst h
    simp only [Rel] at hx; subst hx
    exact ⟨.int .i64 0, by simp [Builtin.len_, run_underlying hu, goInt], by simp only [Rel]⟩
  · rename_i e sz rows hu
    simp only [Option.some.injEq] at h; subst h
    simp only [Rel] at hx
    obtain ⟨A, c, rfl, _⟩ := hx
    exact ⟨.int .i64 rows.length, by simp [Builtin.len_, run_underlying hu, goInt], by simp only [Rel]⟩
  · rename_i e i n hu
    split at h
    · rename_i hc
      simp only [Option.some.injEq] at h; subst h
      obtain ⟨_, _, rows, _, us, ho', hn, hm, hown, _, _⟩ := cur_arr S hx hc
      obtain ⟨A, c, rfl, _⟩ := owns_shape hown
      exact ⟨.int .i64 n, by simp [Builtin.len_, run_underlying hu, goInt, hn], by simp only [Rel]⟩
    · cases h
  · rename_i e i n k hu
    split at h
    · rename_i hc
      simp only [Option.some.injEq] at h; subst h
      obtain ⟨_, _, _, _, _, _, _, _, _, _, _, _, _, _, _, _, _, rfl, _⟩ := cur_arrd S hx hc
      exact ⟨.int .i64 ((n - k : Nat) : Int), by simp [Builtin.len_, run_underlying hu, goInt], by simp only [Rel]⟩
    · cases h
  · cases h
/-- A part of a composite value. -/
def partV (P : Program) (T off : Nat) (cs : List V) : Option V :=
  match kindT P T with
  | some true => if off + sizeT P T ≤ cs.length then some (.agg ((cs.drop off).take (sizeT P T))) else none
  | some false => cs[off]?
  | none => none
theorem partV_sound {P : Program} {E : Env} {w : World} {T off : Nat} {cs : List V} {vs : Array Value} {y : V} (hR : RelL E cs vs.toList) (h : partV P T off cs = some y) : ∃ u, (part T vs off).run P w = .ok u w ∧ Rel E y u := by
  unfold partV at h
  split at h
  · rename_i hk
    split at h
    · rename_i hle
      simp only [Option.some.injEq] at h; subst h
      refine ⟨.agg (vs.extract off (off + sizeT P T)), by simp [part, run_isAgg hk, run_sizeT hk], ?_⟩
      simp only [Rel]
      refine ⟨_, rfl, ?_⟩
      have := RelL.take (sizeT P T) (RelL.drop off hR)
      simpa [Array.toList_extract, List.extract] using this
    · cases h
  · rename_i hk
    obtain ⟨u, hu, hr⟩ := RelL.get off hR h
    simp at hu
    exact ⟨u, by simp [part, run_isAgg hk, hu], hr⟩
  · cases h
def fieldOfV (P : Program) (T : TypeId) (x : V) (f : Nat) : Option V :=
  match P.underlying T, x with
  | some (.struct fs), .agg cs => match fs[f]? with
    | some fd => partV P fd.type fd.offset cs
    | none => none
  | _, _ => none
def indexOfV (P : Program) (T : TypeId) (x i : V) : Option V :=
  match P.underlying T, x, i with
  | some (.array n E), .agg cs, .int _ k => if 0 ≤ k ∧ k.toNat < n ∧ P.cellsOf E ≠ 0 then partV P E (k.toNat * P.cellsOf E) cs else none
  | _, _, _ => none
theorem fieldOfV_sound {P : Program} {E : Env} {w : World} {T : TypeId} {x y : V} {u : Value} {f : Nat} (hx : Rel E x u) (h : fieldOfV P T x f = some y) : ∃ u', (Instr.field T u f).run P w = .ok u' w ∧ Rel E y u' := by
  unfold fieldOfV at h
  split at h
  · rename_i fs cs hu
    split at h
    · rename_i fd hf
      simp only [Rel] at hx
      obtain ⟨vs, rfl, hR⟩ := hx
      obtain ⟨u, hr, hy⟩ := partV_sound (w := w) hR h
      exact ⟨u, by simp [Instr.field, run_underlying hu, hf, asAgg, hr], hy⟩
    · cases h
  · cases h
theorem indexOfV_sound {P : Program} {E : Env} {w : World} {T : TypeId} {x i y : V} {u ui : Value} (hx : Rel E x u) (hi : Rel E i ui) (h : indexOfV P T x i = some y) : ∃ u', (Instr.index T u ui).run P w = .ok u' w ∧ Rel E y u' := by
  unfold indexOfV at h
  split at h
  · rename_i n EE cs kk k hu
    split at h
    · rename_i hc
      simp only [Rel] at hx hi
      obtain ⟨vs, rfl, hR⟩ := hx
      subst hi
      obtain ⟨u, hr, hy⟩ := partV_sound (w := w) hR h
      have hk : 0 ≤ k ∧ k < (n : Int) := ⟨hc.1, by omega⟩
      exact ⟨u, by simp [Instr.index, run_underlying hu, asIntOf, hk, cellsOf_info hc.2.2, hr], hy⟩
    · cases h
  · cases h

/-! ### maps -/
def mapT (P : Program) (T : TypeId) : Option (TypeId × TypeId) :=
  match P.underlying T with
  | some (.map k e) => some (k, e)
  | _ => none
theorem mapT_spec {P : Program} {T K E : TypeId} (h : mapT P T = some (K, E)) : P.underlying T = some (.map K E) := by
  unfold mapT at h
  split at h
  · rename_i k e hu
    simp only [Option.some.injEq, Prod.mk.injEq] at h
    obtain ⟨rfl, rfl⟩ := h
    exact hu
  · cases h
/-- A key's numbers. -/
def keyI (ks : List IntKind) : V → Option (List Int)
  | .agg cs => intsK ks cs
  | _ => none
/-- What a key is found with: the first entry's place. -/
def findM (ks : List IntKind) (as : List Int) : List (V × V) → Nat → Option (Option (Nat × V))
  | [], _ => some none
  | (k, v) :: es, i => match keyI ks k with
    | some bs => if as == bs then some (some (i, v)) else findM ks as es (i + 1)
    | none => none
theorem keyI_sound {E : Env} {ks : List IntKind} {k : V} {u : Value} {as : List Int} (h : keyI ks k = some as) (hr : Rel E k u) : u = .agg (valsK ks as).toArray ∧ as.length = ks.length := by
  cases k with
  | agg cs =>
    simp only [keyI] at h
    simp only [Rel] at hr
    obtain ⟨vs, rfl, hR⟩ := hr
    obtain ⟨h1, h2⟩ := RelL.intsK hR h
    exact ⟨by rw [← h1], h2⟩
  | _ => simp [keyI] at h
theorem findM_sound {P : Program} (F : Facts P) {E : Env} {w : World} {K : TypeId} {ks : List IntKind} (hK : F.eqK K = some ks) {as : List Int} (hl : as.length = ks.length) : ∀ {es : List (V × V)} {ms : List MapEntry} {i : Nat} {r : Option (Nat × V)},
    RelL E (es.map (·.1)) (ms.map (·.key)) → RelL E (es.map (·.2)) (ms.map (·.val)) → findM ks as es i = some r →
    ∃ r', (Instr.findAsking K (.agg (valsK ks as).toArray) ms i).run P w = .ok r' w ∧ (match r with
      | none => r' = none
      | some (j, v) => ∃ u, r' = some (j, u) ∧ Rel E v u)
  | [], ms, i, r, h1, h2, h => by
    simp only [List.map_nil, RelL, List.map_eq_nil_iff] at h1; subst h1
    simp only [findM, Option.some.injEq] at h; subst h
    exact ⟨none, by simp [Instr.findAsking], rfl⟩
  | (k, v) :: es, ms, i, r, h1, h2, h => by
    simp only [List.map_cons, RelL] at h1 h2
    obtain ⟨uk, us, e1, hk, h1⟩ := h1
    obtain ⟨uv, us', e2, hv, h2⟩ := h2
    cases ms with
    | nil => simp at e1
    | cons m ms =>
      simp only [List.map_cons, List.cons.injEq] at e1 e2
      obtain ⟨rfl, rfl⟩ := e1
      obtain ⟨rfl, rfl⟩ := e2
      simp only [findM] at h
      split at h
      · rename_i bs hb
        obtain ⟨e3, hbl⟩ := keyI_sound hb hk
        have he := F.equal_ok K ks hK as bs w hl hbl
        rw [← e3] at he
        split at h
        · rename_i hab
          simp only [Option.some.injEq] at h; subst h
          refine ⟨some (i, m.val), ?_, m.val, rfl, hv⟩
          simp only [Instr.findAsking, Sem.run_bind, he, Result.andThen_ok, hab, if_true, Sem.run_pure]
        · rename_i hab
          obtain ⟨r', hr', hm⟩ := findM_sound F hK hl h1 h2 h
          refine ⟨r', ?_, hm⟩
          simp only [Instr.findAsking, Sem.run_bind, he, Result.andThen_ok, hab, if_false]
          simpa using hr'
      · cases h
/-- The value that a type begins with. -/
def zeroVal (P : Program) (T : TypeId) : Option V :=
  match P.info? T with
  | some i => match i.zero with
    | some z => ofValue z
    | none => none
  | none => none
theorem zeroVal_sound {P : Program} {E : Env} {T : TypeId} {x : V} (h : zeroVal P T = some x) (w : World) : ∃ z, (zeroValue T).run P w = .ok z w ∧ Rel E x z := by
  unfold zeroVal at h
  split at h
  · rename_i i hi
    split at h
    · rename_i z hz
      exact ⟨z, by simp [zeroValue, typeInfo, hi, hz], ofValue_sound h⟩
    · cases h
  · cases h
/-- A map is looked into. -/
def lookupV {P : Program} (F : Facts P) (h : List AObj) (T : TypeId) (x k : V) (ok : Bool) : Option V :=
  match x, mapT P T with
  | .map i, some (K, E) => match h[i]?, F.eqK K with
    | some (.map es), some ks => match keyI ks k with
      | some as => match findM ks as es 0 with
        | some (some (_, v)) => some (if ok then .tup [v, .bool true] else v)
        | some none => match zeroVal P E with
          | some z => some (if ok then .tup [z, .bool false] else z)
          | none => none
        | none => none
      | none => none
    | _, _ => none
  | _, _ => none
theorem map_obj {C : Ctx} {s : St} {m : List Value} {a : Act} {w : World} (S : Sim C s m a w) {i : Nat} {u : Value} {es : List (V × V)} (hr : Rel (env C s.h m w) (.map i) u) (ho : s.h[i]? = some (.map es)) :
    ∃ b clock es', u = .map (some b) ∧ m[i]? = some (.map (some b)) ∧ C.w0.heap.size ≤ b ∧ w.heap[b]? = some (.map es' clock) ∧ RelL (env C s.h m w) (es.map (·.1)) (es'.toList.map (·.key)) ∧ RelL (env C s.h m w) (es.map (·.2)) (es'.toList.map (·.val)) := by
  simp only [Rel] at hr
  obtain ⟨b, hm, rfl⟩ := hr
  simp only [env] at hm
  obtain ⟨b', clock, es', he, h1, h2, h3, h4⟩ := S.objs i _ _ ho hm
  cases he
  exact ⟨b, clock, es', rfl, hm, h1, h2, h3, h4⟩
theorem run_getMap {P : Program} {w : World} {b clock : Nat} {es : Array MapEntry} (h : w.heap[b]? = some (.map es clock)) : (getObj b).run P w = .ok (.map es clock) w := by simp [getObj, Sem.run, h]
theorem findKey_wide {P : Program} {w : World} {K : TypeId} {x : Value} {es : List MapEntry} (hw : wideT P K = true) :
    (Instr.findKey K x es).run P w = (Instr.findAsking K x es).run P w := by
  unfold wideT at hw
  cases hu : P.underlying K with
  | none => simp [hu] at hw
  | some kd =>
    cases es with
    | nil => simp [Instr.findKey, run_underlying hu, Instr.findNow, Instr.findAsking]
    | cons e es => cases kd <;> simp [hu] at hw <;> simp [Instr.findKey, run_underlying hu, Instr.findNow, Instr.sameNow]
theorem lookupV_sound {P : Program} (F : Facts P) {C : Ctx} {s : St} {m : List Value} {a : Act} {w : World} (S : Sim C s m a w) {T : TypeId} {x k y : V} {ux uk : Value} {ok : Bool} (hx : Rel (env C s.h m w) x ux) (hk : Rel (env C s.h m w) k uk)
    (h : lookupV F s.h T x k ok = some y) : ∃ u, (Instr.lookup T ux uk ok).run P w = .ok u w ∧ Rel (env C s.h m w) y u := by
  unfold lookupV at h
  split at h
  · rename_i i K E hT
    have hu := mapT_spec hT
    split at h
    · rename_i es ks ho hK
      split at h
      · rename_i as ha
        obtain ⟨hue, hl⟩ := keyI_sound ha hk
        subst hue
        obtain ⟨b, clock, es', rfl, hm, _, hh, h1, h2⟩ := map_obj S hx ho
        have hc := fun e => F.check_ok K ks hK as e w hl
        split at h
        · rename_i j v hf
          simp only [Option.some.injEq] at h; subst h
          obtain ⟨r', hr', u, rfl, hv⟩ := findM_sound (w := w) F hK hl h1 h2 hf
          refine ⟨if ok then .tuple #[u, .bool true] else u, ?_, ?_⟩
          · simp only [Instr.lookup, Sem.run_bind, run_underlying hu, Result.andThen_ok, run_getMap hh, Sem.run_pure, hc, findKey_wide (F.wide_ok K ks hK), hr']
          · cases ok
            · simpa using hv
            · simp only [if_true, Rel, RelL]
              exact ⟨_, rfl, u, _, rfl, hv, _, _, rfl, rfl, rfl⟩
        · rename_i hf
          obtain ⟨r', hr', rfl⟩ := findM_sound (w := w) F hK hl h1 h2 hf
          split at h
          · rename_i z hz
            simp only [Option.some.injEq] at h; subst h
            obtain ⟨u, hrun, hv⟩ := zeroVal_sound (E := env C s.h m w) hz w
            refine ⟨if ok then .tuple #[u, .bool false] else u, ?_, ?_⟩
            · simp only [Instr.lookup, Sem.run_bind, run_underlying hu, Result.andThen_ok, run_getMap hh, Sem.run_pure, hc, findKey_wide (F.wide_ok K ks hK), hr', hrun]
            · cases ok
              · simpa using hv
              · simp only [if_true, Rel, RelL]
                exact ⟨_, rfl, u, _, rfl, hv, _, _, rfl, rfl, rfl⟩
          · cases h
        · cases h
      · cases h
    · cases h
  · cases h
theorem makeMap_sound {P : Program} {C : Ctx} {s : St} {m : List Value} {a : Act} {w : World} (S : Sim C s m a w) (T : TypeId) :
    ∃ u m' w', (Instr.makeMap T none).run P w = .ok u w' ∧ Sim C ⟨s.t, s.h ++ [.map []]⟩ m' a w' ∧ Rel (env C (s.h ++ [.map []]) m' w') (.map s.h.length) u ∧ Up (env C s.h m w) (env C (s.h ++ [.map []]) m' w') := by
  obtain ⟨h1, L⟩ := S.add (o := .map []) (v := .map (some w.heap.size)) (below_alloc' w (.map #[] 0)) (fun b hb => by simp only [blk, Option.some.injEq] at hb; subst hb; exact ⟨Nat.le_refl _, by rw [size_alloc']; omega⟩)
    (fun L => ⟨w.heap.size, 0, #[], rfl, S.below.size, alloc_new _ _, by simp [RelL], by simp [RelL]⟩)
  refine ⟨.map (some w.heap.size), _, _, ?_, h1, ?_, L⟩
  · simp [Instr.makeMap, newObj, Sem.run]
  · simp only [Rel, env]
    exact ⟨w.heap.size, by rw [← S.len]; simp, rfl⟩
/-- A map is told something new. -/
def updateH {P : Program} (F : Facts P) (h : List AObj) (T : TypeId) (x k v : V) : Option (List AObj) :=
  match x, mapT P T with
  | .map i, some (K, E) => match h[i]?, F.eqK K with
    | some (.map es), some ks => match keyI ks k with
      | some as => match findM ks as es 0 with
        | some none => some (h.set i (.map (es ++ [(k, v)])))
        | _ => none
      | none => none
    | _, _ => none
  | _, _ => none
theorem grownBy_setObj (w : World) (b : Nat) (o : Obj) : w.grownBy { w with heap := w.heap.setIfInBounds b o } (some b) :=
  ⟨rfl, rfl, rfl, by simp, fun k hk hne => by
    have : b ≠ k := fun e => hne (by rw [e])
    simp [Array.getElem?_setIfInBounds_ne this]⟩
theorem run_setObj_any {P : Program} {w : World} {b c : Nat} {es : Array MapEntry} (o' : Obj) (h : w.heap[b]? = some (.map es c)) : (setObj b o').run P w = .ok () { w with heap := w.heap.setIfInBounds b o' } := by
  simp [setObj, Sem.run, h]
theorem updateH_sound {P : Program} (F : Facts P) {C : Ctx} {s : St} {m : List Value} {a : Act} {w : World} (S : Sim C s m a w) {T : TypeId} {x k v : V} {ux uk uv : Value} {h' : List AObj} (hx : Rel (env C s.h m w) x ux) (hk : Rel (env C s.h m w) k uk) (hv : Rel (env C s.h m w) v uv)
    (h : updateH F s.h T x k v = some h') : ∃ m' w', (Instr.mapUpdate T ux uk uv).run P w = .ok () w' ∧ Sim C ⟨s.t, h'⟩ m' a w' ∧ Up (env C s.h m w) (env C h' m' w') := by
  unfold updateH at h
  split at h
  · rename_i i K E hT
    have hu := mapT_spec hT
    split at h
    · rename_i es ks ho hK
      split at h
      · rename_i as ha
        obtain ⟨hue, hl⟩ := keyI_sound ha hk
        obtain ⟨b, clock, es', rfl, hm, hb, hh, h1, h2⟩ := map_obj S hx ho
        have hc := fun e => F.check_ok K ks hK as e w hl
        split at h
        · rename_i hf
          simp only [Option.some.injEq] at h; subst h
          obtain ⟨r', hr', rfl⟩ := findM_sound (w := w) F hK hl h1 h2 hf
          have hlt : b < w.heap.size := cells_lt hh
          obtain ⟨h3, L⟩ := S.turn (o' := .map (es ++ [(k, v)])) (v' := .map (some b)) ho hm rfl (.inr (.inr (.inl ⟨_, _, rfl, rfl, rfl⟩))) (grownBy_setObj w b (.map (es'.push { key := uk, val := uv, born := clock }) (clock + 1))) (.inl rfl)
            (fun L => ⟨b, clock + 1, es'.push { key := uk, val := uv, born := clock }, rfl, hb, by simp [env, hlt], by
              simp only [List.map_append, List.map_cons, List.map_nil, Array.toList_push]
              exact (h1.le L).append (by simp only [RelL]; exact ⟨_, _, rfl, hk.le L, rfl⟩), by
              simp only [List.map_append, List.map_cons, List.map_nil, Array.toList_push]
              exact (h2.le L).append (by simp only [RelL]; exact ⟨_, _, rfl, hv.le L, rfl⟩)⟩)
          refine ⟨_, _, ?_, h3, L⟩
          rw [hue]
          simp only [Instr.mapUpdate, Sem.run_bind, run_underlying hu, Result.andThen_ok, run_getMap hh, hc, findKey_wide (F.wide_ok K ks hK), hr', run_setObj_any _ hh]
        · cases h
      · cases h
    · cases h
  · cases h
end Go.Ab
