import Derived.Test.YtahflobpopclpaaAb11
namespace Go.Ab
open Go Go.RowKit
set_option linter.unusedVariables false

/-- What a pointer is good for: not nil, seen at a glance. -/
def solidV (h : List AObj) : V → Bool
  | .ptr _ _ | .ro _ => true
  | .aptr i n r o => cur h (.aptr i n r o)
  | .qptr i n r o => cur h (.qptr i n r o)
  | .fn _ _ _ | .iface _ _ => true
  | _ => false
def optV (s : St) : Option Operand → Option (Option V)
  | none => some none
  | some x => match ev s x with
    | some v => some (some v)
    | none => none
/-- '==' with the nil of an interface beside the rest. -/
def binN {P : Program} (F : Facts P) (op : BinOp) (T : TypeId) (x y : V) : Option V :=
  match y with
  | .nilif => match x, P.underlying T, op with
    | .nilif, some (.interface ms), .eql => if ms.isEmpty = true then some (.bool true) else none
    | .iface _ _, some (.interface ms), .eql => if ms.isEmpty = true then some (.bool false) else none
    | _, _, _ => none
  | y => binV F op T x y
theorem binN_sound {P : Program} {F : Facts P} {E : Env} {w : World} {op : BinOp} {T : TypeId} {x y z : V} {ux uy : Value} (hx : Rel E x ux) (hy : Rel E y uy) (ox oy : Operand) (h : binN F op T x y = some z) :
    ∃ u, (do eqGuard op T ox oy ux uy; binOp op T ux uy).run P w = .ok u w ∧ Rel E z u := by
  unfold binN at h
  split at h
  · simp only [Rel] at hy; subst hy
    split at h
    · rename_i ms hu
      split at h
      · rename_i hm
        simp only [Option.some.injEq] at h; subst h
        simp only [Rel] at hx; subst hx
        refine ⟨.bool true, ?_, by simp only [Rel]⟩
        have hg : (Op.eqGuardIn Op.maxDepth T .nilIface .nilIface).run P w = .ok false w := by
          rw [show Op.maxDepth = 9999 + 1 from rfl, Op.eqGuardIn]
          simp [run_underlying hu, hm]
        have he : (Op.equal T .nilIface .nilIface).run P w = .ok true w := by
          unfold Op.equal
          rw [show Op.maxDepth = 9999 + 1 from rfl, Op.equalIn]
          simp [run_underlying hu]
        have hgg : (eqGuard .eql T ox oy .nilIface .nilIface).run P w = .ok () w := by
          unfold eqGuard
          cases ox <;> cases oy <;> simp [hg]
        simp only [Sem.run_bind, hgg, Result.andThen_ok, binOp, he, Sem.run_pure]
      · cases h
    · rename_i t v ms hu
      split at h
      · simp only [Option.some.injEq] at h; subst h
        simp only [Rel] at hx
        obtain ⟨u, rfl, _⟩ := hx
        refine ⟨.bool false, ?_, by simp only [Rel]⟩
        have he : (Op.equal T (.iface t u) .nilIface).run P w = .ok false w := by
          unfold Op.equal
          rw [show Op.maxDepth = 9999 + 1 from rfl, Op.equalIn]
          simp [run_underlying hu]
        simp [eqGuard, binOp, he]
      · cases h
    · cases h
  · exact binV_sound hx hy ox oy h
/-- One operation that is no call of a Go function: what it yields (nothing: none), and the heap behind it. -/
def opV {P : Program} (F : Facts P) (s : St) (op : Op) : Option (Option V × List AObj) :=
  match op with
  | .move x | .assign x => match ev s x with
    | some v => some (some v, s.h)
    | none => none
  | .pick c a b => match ev s c, ev s a, ev s b with
    | some (.bool t), some x, some y => some (some (if t = true then x else y), s.h)
    | _, _, _ => none
  | .alloc T => match zeroV P T with
    | some cs => some (some (.ptr s.h.length 0), s.h ++ [.box T cs])
    | none => none
  | .box T x => match ev s x with
    | some v => match flat s.h v with
      | some cs => some (some (.ptr s.h.length 0), s.h ++ [.box T cs])
      | none => none
    | none => none
  | .build T ps => match evp s ps.toList with
    | some vs => match buildV P s.h T vs with
      | some v => some (some v, s.h)
      | none => none
    | none => none
  | .buildSlice T n ps => match evp s ps.toList with
    | some vs => match litV P s.h T n vs with
      | some v => some (some v, s.h)
      | none => none
    | none => none
  | .load T x => match ev s x with
    | some v => match loadV P s.h T v with
      | some y => some (some y, s.h)
      | none => none
    | none => none
  | .store T p x => match ev s p, ev s x with
    | some pv, some v => match storeH P s.h T pv v with
      | some h' => some (none, h')
      | none => none
    | _, _ => none
  | .nilCheck x => match ev s x with
    | some v => if solidV s.h v = true then some (some v, s.h) else none
    | none => none
  | .binOp b T x y _ => match ev s x, ev s y with
    | some v, some u => match binN F b T v u with
      | some z => some (some z, s.h)
      | none => none
    | _, _ => none
  | .unOp u _ x => match u, ev s x with
    | .not, some (.bool b) => some (some (.bool (!b)), s.h)
    | .neg, some (.int k n) => some (some (.int k (k.wrap (0 - n))), s.h)
    | _, _ => none
  | .makeFunc (.func f) fs cs => match evs s fs.toList, evs s cs.toList with
    | some a, some b => some (some (.fn f a b), s.h)
    | _, _ => none
  | .makeSlice T n c => match ev s n, ev s c with
    | some (.int .i64 k), some (.int .i64 k') => if k = k' then (match makeV P s.h T (.int .i64 k) with
      | some (v, h') => some (some v, h')
      | none => none) else none
    | _, _ => none
  | .slice T x lo hi none => match ev s x, optV s lo, optV s hi with
    | some v, some l, some u => match sliceD P s.h T v l u with
      | some y => some (some y, s.h)
      | none => none
    | _, _, _ => none
  | .fieldAddr T x f => match ev s x with
    | some v => match fieldV P s.h T v f with
      | some y => some (some y, s.h)
      | none => none
    | none => none
  | .field T x f => match ev s x with
    | some v => match fieldOfV P T v f with
      | some y => some (some y, s.h)
      | none => none
    | none => none
  | .indexAddr T x i => match ev s x, ev s i with
    | some v, some k => match indexAddrV P s.h T v k with
      | some y => some (some y, s.h)
      | none => none
    | _, _ => none
  | .index T x i => match ev s x, ev s i with
    | some v, some k => match indexOfV P T v k with
      | some y => some (some y, s.h)
      | none => none
    | _, _ => none
  | .extract x i => match ev s x with
    | some (.tup cs) => match cs[i]? with
      | some y => some (some y, s.h)
      | none => none
    | _ => none
  | .makeInterface T x => match ev s x, P.underlying T with
    | some v, some (.struct _) => some (some (.iface T v), s.h)
    | _, _ => none
  | .typeAssert x _ T true => match ev s x, P.underlying T with
    | some (.iface t v), some (.struct _) => if t = T then some (some (.tup [v, .bool true]), s.h) else (match zeroVal P T with
      | some z => some (some (.tup [z, .bool false]), s.h)
      | none => none)
    | _, _ => none
  | .makeMap T none => some (some (.map s.h.length), s.h ++ [.map []])
  | .insert T m k x => match ev s m, ev s k, ev s x with
    | some mv, some kv, some v => match updateH F s.h T mv kv v with
      | some h' => some (none, h')
      | none => none
    | _, _, _ => none
  | .mapUpdate T m k x => match ev s m, ev s k, ev s x with
    | some mv, some kv, some v => match updateH F s.h T mv kv v with
      | some h' => some (none, h')
      | none => none
    | _, _, _ => none
  | .lookup T x k ok => match ev s x, ev s k with
    | some v, some kv => match lookupV F s.h T v kv ok with
      | some y => some (some y, s.h)
      | none => none
    | _, _ => none
  | .call ⟨.builtin b, args, ts⟩ => match b, args.toList, ts.toList with
    | .len, [x], [T] => match ev s x with
      | some v => match lenV P s.h T v with
        | some y => some (some y, s.h)
        | none => none
      | none => none
    | .append, [x, y], [T, T'] => match ev s x, ev s y with
      | some v, some u => if T = T' then (match appendD P s.h T v u with
        | some (z, h') => some (some z, h')
        | none => none) else none
      | _, _ => none
    | .max, [x, y], _ => match ev s x, ev s y with
      | some (.int k a), some (.int k' b) => some (some (.int k (if b > a then b else a)), s.h)
      | _, _ => none
    | .min, [x, y], _ => match ev s x, ev s y with
      | some (.int k a), some (.int k' b) => some (some (.int k (if b < a then b else a)), s.h)
      | _, _ => none
    | _, _, _ => none
  | _ => none
theorem optV_sound {C : Ctx} {s : St} {m : List Value} {a : Act} {w : World} (S : Sim C s m a w) {x : Option Operand} {l : Option V} (h : optV s x = some l) :
    (∀ v, l = some v → ∃ z, x.map a.eval = some z ∧ Rel (env C s.h m w) v z) ∧ (l = none → x.map a.eval = none) := by
  cases x with
  | none => simp only [optV, Option.some.injEq] at h; subst h; simp
  | some x =>
    simp only [optV] at h
    split at h
    · rename_i v hv
      simp only [Option.some.injEq] at h; subst h
      exact ⟨fun v' hv' => by cases hv'; exact ⟨_, rfl, ev_sound S hv⟩, by simp⟩
    · cases h
/-- What an operation does, held against what it is read to do. -/
def OpOk (P : Program) (C : Ctx) (s : St) (m : List Value) (w : World) (a : Act) (run : Result Next) (r : Option V) (h' : List AObj) : Prop :=
  ∃ m' w', Sim C ⟨s.t, h'⟩ m' a w' ∧ Up (env C s.h m w) (env C h' m' w') ∧ match r with
    | some v => ∃ u, run = .ok (.value u) w' ∧ Rel (env C h' m' w') v u
    | none => run = .ok .skip w'
theorem opV_sound {P : Program} (F : Facts P) {C : Ctx} {s : St} {m : List Value} {a : Act} {w : World} (S : Sim C s m a w) (o : Oper) {r : Option V} {h' : List AObj} (h : opV F s o.op = some (r, h')) :
    OpOk P C s m w a ((execOp a.eval o).run P w) r h' := by
  cases hop : o.op with
  | move x | assign x =>
    simp only [hop, opV] at h
    split at h
    · rename_i v hv
      simp only [Option.some.injEq, Prod.mk.injEq] at h
      obtain ⟨rfl, rfl⟩ := h
      exact ⟨m, w, S, Up.refl _, _, by simp [execOp, hop], ev_sound S hv⟩
    · cases h
  | pick c x y =>
    simp only [hop, opV] at h
    split at h
    · rename_i t vx vy h1 h2 h3
      simp only [Option.some.injEq, Prod.mk.injEq] at h
      obtain ⟨rfl, rfl⟩ := h
      have hc := ev_sound S h1
      simp only [Rel] at hc
      refine ⟨m, w, S, Up.refl _, if t = true then a.eval x else a.eval y, by simp [execOp, hop, hc, asBool], ?_⟩
      cases t
      · exact ev_sound S h3
      · exact ev_sound S h2
    · cases h
  | alloc T =>
    simp only [hop, opV] at h
    split at h
    · rename_i cs hz
      simp only [Option.some.injEq, Prod.mk.injEq] at h
      obtain ⟨rfl, rfl⟩ := h
      obtain ⟨u, m', w', h1, h2, h3, h4⟩ := alloc_op_sound S hz
      exact ⟨m', w', h2, h4, u, by simp [execOp, hop, h1], h3⟩
    · cases h
  | box T x =>
    simp only [hop, opV] at h
    split at h
    · rename_i v hv
      split at h
      · rename_i cs hf
        simp only [Option.some.injEq, Prod.mk.injEq] at h
        obtain ⟨rfl, rfl⟩ := h
        obtain ⟨h2, h3, h4⟩ := box_sim S T (flat_sound S (ev_sound S hv) hf).1
        exact ⟨_, _, h2, h4, _, by simp [execOp, hop, run_box], h3⟩
      · cases h
    · cases h
  | build T ps =>
    simp only [hop, opV] at h
    split at h
    · rename_i vs hv
      split at h
      · rename_i v hb
        simp only [Option.some.injEq, Prod.mk.injEq] at h
        obtain ⟨rfl, rfl⟩ := h
        obtain ⟨h1, h2⟩ := evp_sound S hv
        obtain ⟨u, hr, hR⟩ := buildV_sound S h1 h2 hb
        refine ⟨m, w, S, Up.refl _, u, ?_, hR⟩
        simp only [execOp, hop, Sem.run_bind]
        have e : (ps.map fun (i, x) => (i, a.eval x)) = (ps.toList.map fun (i, x) => (i, a.eval x)).toArray := by
          apply Array.toList_inj.1; simp
        rw [e, hr]; simp
      · cases h
    · cases h
  | buildSlice T n ps =>
    simp only [hop, opV] at h
    split at h
    · rename_i vs hv
      split at h
      · rename_i v hb
        simp only [Option.some.injEq, Prod.mk.injEq] at h
        obtain ⟨rfl, rfl⟩ := h
        obtain ⟨h1, h2⟩ := evp_sound S hv
        obtain ⟨u, w', hr, S', hR, hU⟩ := litV_sound S h1 h2 hb
        refine ⟨m, w', S', hU, u, ?_, hR⟩
        simp only [execOp, hop, Sem.run_bind]
        have e : (ps.map fun (i, x) => (i, a.eval x)) = (ps.toList.map fun (i, x) => (i, a.eval x)).toArray := by
          apply Array.toList_inj.1; simp
        rw [e, hr]; simp
      · cases h
    · cases h
  | load T x =>
    simp only [hop, opV] at h
    split at h
    · rename_i v hv
      split at h
      · rename_i y hl
        simp only [Option.some.injEq, Prod.mk.injEq] at h
        obtain ⟨rfl, rfl⟩ := h
        obtain ⟨u, hr, hR⟩ := loadV_sound S (ev_sound S hv) hl
        exact ⟨m, w, S, Up.refl _, u, by simp [execOp, hop, hr], hR⟩
      · cases h
    · cases h
  | store T p x =>
    simp only [hop, opV] at h
    split at h
    · rename_i pv v hp hv
      split at h
      · rename_i h1 hs
        simp only [Option.some.injEq, Prod.mk.injEq] at h
        obtain ⟨rfl, rfl⟩ := h
        obtain ⟨m', w', hr, S', hU⟩ := store_sound S (ev_sound S hp) (ev_sound S hv) hs
        exact ⟨m', w', S', hU, by simp [execOp, hop, hr]⟩
      · cases h
    · cases h
  | nilCheck x =>
    simp only [hop, opV] at h
    split at h
    · rename_i v hv
      split at h
      · rename_i hs
        simp only [Option.some.injEq, Prod.mk.injEq] at h
        obtain ⟨rfl, rfl⟩ := h
        have hR := ev_sound S hv
        refine ⟨m, w, S, Up.refl _, a.eval x, ?_, hR⟩
        have hsol : (∃ ad, a.eval x = .pointer (some ad)) ∨ (∃ f b c, a.eval x = .func (.func f) b c) ∨ (∃ t u, a.eval x = .iface t u) := by
          cases v with
          | ptr i off => simp only [Rel] at hR; obtain ⟨b, _, h⟩ := hR; exact .inl ⟨_, h⟩
          | ro cs => simp only [Rel] at hR; obtain ⟨ad, h, _⟩ := hR; exact .inl ⟨_, h⟩
          | aptr i n r off => obtain ⟨b, k, h⟩ := cur_aptr S hR (by simpa [solidV] using hs); exact .inl ⟨_, h⟩
          | qptr i n r off => obtain ⟨b, k, h⟩ := cur_qptr S hR (by simpa [solidV] using hs); exact .inl ⟨_, h⟩
          | fn f b c => simp only [Rel] at hR; obtain ⟨b, c, h, _⟩ := hR; exact .inr (.inl ⟨_, _, _, h⟩)
          | iface t u => simp only [Rel] at hR; obtain ⟨u, h, _⟩ := hR; exact .inr (.inr ⟨_, _, h⟩)
          | _ => simp [solidV] at hs
        rcases hsol with ⟨ad, h⟩ | ⟨f, b, c, h⟩ | ⟨t, u, h⟩ <;> simp [execOp, hop, h]
      · cases h
    · cases h
  | binOp b T x y yt =>
    simp only [hop, opV] at h
    split at h
    · rename_i v u hv hu
      split at h
      · rename_i z hz
        simp only [Option.some.injEq, Prod.mk.injEq] at h
        obtain ⟨rfl, rfl⟩ := h
        obtain ⟨uz, hr, hR⟩ := binN_sound (w := w) (ev_sound S hv) (ev_sound S hu) x y hz
        refine ⟨m, w, S, Up.refl _, uz, ?_, hR⟩
        simp only [execOp, hop]
        rw [Sem.run_bind, hr]; simp
      · cases h
    · cases h
  | unOp u T x =>
    simp only [hop, opV] at h
    split at h
    · rename_i b hv
      simp only [Option.some.injEq, Prod.mk.injEq] at h
      obtain ⟨rfl, rfl⟩ := h
      have hR := ev_sound S hv
      simp only [Rel] at hR
      exact ⟨m, w, S, Up.refl _, .bool (!b), by simp [execOp, hop, hR, Op.unary], by simp only [Rel]⟩
    · rename_i k n hv
      simp only [Option.some.injEq, Prod.mk.injEq] at h
      obtain ⟨rfl, rfl⟩ := h
      have hR := ev_sound S hv
      simp only [Rel] at hR
      exact ⟨m, w, S, Up.refl _, .int k (k.wrap (0 - n)), by simp [execOp, hop, hR, Op.unary, Op.intArith], by simp only [Rel]⟩
    · cases h
  | makeFunc fn fs cs =>
    simp only [hop, opV] at h
    cases fn with
    | func f =>
      simp only at h
      split at h
      · rename_i va vb h1 h2
        simp only [Option.some.injEq, Prod.mk.injEq] at h
        obtain ⟨rfl, rfl⟩ := h
        refine ⟨m, w, S, Up.refl _, .func (.func f) (fs.map a.eval) (cs.map a.eval), by simp [execOp, hop, Instr.makeFunc], ?_⟩
        simp only [Rel]
        exact ⟨_, _, rfl, by simpa using evs_sound S h1, by simpa using evs_sound S h2⟩
      · cases h
    | _ => simp at h
  | makeSlice T n c =>
    simp only [hop, opV] at h
    split at h
    · rename_i k k' hn hc
      split at h
      · rename_i hk; subst hk
        split at h
        · rename_i v h1 hm
          simp only [Option.some.injEq, Prod.mk.injEq] at h
          obtain ⟨rfl, rfl⟩ := h
          have e1 := ev_sound S hn
          have e2 := ev_sound S hc
          simp only [Rel] at e1 e2
          obtain ⟨u, m', w', hr, S', hR, hU⟩ := makeV_sound S (ev_sound S hn) hm
          rw [e1] at hr
          exact ⟨m', w', S', hU, u, by simp [execOp, hop, e1, e2, hr], hR⟩
        · cases h
      · cases h
    · cases h
  | slice T x lo hi mx =>
    simp only [hop, opV] at h
    cases mx with
    | some z => simp at h
    | none =>
      simp only at h
      split at h
      · rename_i v l u h1 h2 h3
        split at h
        · rename_i y hs
          simp only [Option.some.injEq, Prod.mk.injEq] at h
          obtain ⟨rfl, rfl⟩ := h
          obtain ⟨ha, hb⟩ := optV_sound S h2
          obtain ⟨hc, hd⟩ := optV_sound S h3
          obtain ⟨u', hr, hR⟩ := sliceD_sound S (ev_sound S h1) ha hb hc hd hs
          exact ⟨m, w, S, Up.refl _, u', by simp [execOp, hop, hr], hR⟩
        · cases h
      · cases h
  | fieldAddr T x f =>
    simp only [hop, opV] at h
    split at h
    · rename_i v hv
      split at h
      · rename_i y hl
        simp only [Option.some.injEq, Prod.mk.injEq] at h
        obtain ⟨rfl, rfl⟩ := h
        obtain ⟨u, hr, hR⟩ := fieldV_sound S (ev_sound S hv) hl
        exact ⟨m, w, S, Up.refl _, u, by simp [execOp, hop, hr], hR⟩
      · cases h
    · cases h
  | field T x f =>
    simp only [hop, opV] at h
    split at h
    · rename_i v hv
      split at h
      · rename_i y hl
        simp only [Option.some.injEq, Prod.mk.injEq] at h
        obtain ⟨rfl, rfl⟩ := h
        obtain ⟨u, hr, hR⟩ := fieldOfV_sound (w := w) (ev_sound S hv) hl
        exact ⟨m, w, S, Up.refl _, u, by simp [execOp, hop, hr], hR⟩
      · cases h
    · cases h
  | indexAddr T x i =>
    simp only [hop, opV] at h
    split at h
    · rename_i v k hv hk
      split at h
      · rename_i y hl
        simp only [Option.some.injEq, Prod.mk.injEq] at h
        obtain ⟨rfl, rfl⟩ := h
        obtain ⟨u, hr, hR⟩ := indexAddrV_sound S (ev_sound S hv) (ev_sound S hk) hl
        exact ⟨m, w, S, Up.refl _, u, by simp [execOp, hop, hr], hR⟩
      · cases h
    · cases h
  | index T x i =>
    simp only [hop, opV] at h
    split at h
    · rename_i v k hv hk
      split at h
      · rename_i y hl
        simp only [Option.some.injEq, Prod.mk.injEq] at h
        obtain ⟨rfl, rfl⟩ := h
        obtain ⟨u, hr, hR⟩ := indexOfV_sound (w := w) (ev_sound S hv) (ev_sound S hk) hl
        exact ⟨m, w, S, Up.refl _, u, by simp [execOp, hop, hr], hR⟩
      · cases h
    · cases h
  | extract x i =>
    simp only [hop, opV] at h
    split at h
    · rename_i cs hv
      split at h
      · rename_i y hy
        simp only [Option.some.injEq, Prod.mk.injEq] at h
        obtain ⟨rfl, rfl⟩ := h
        have hR := ev_sound S hv
        simp only [Rel] at hR
        obtain ⟨vs, he, hR⟩ := hR
        obtain ⟨u, hu, hr⟩ := RelL.get i hR hy
        simp at hu
        exact ⟨m, w, S, Up.refl _, u, by simp [execOp, hop, he, Instr.extract, hu], hr⟩
      · cases h
    · cases h
  | makeInterface T x =>
    simp only [hop, opV] at h
    split at h
    · rename_i v fs hv hu
      simp only [Option.some.injEq, Prod.mk.injEq] at h
      obtain ⟨rfl, rfl⟩ := h
      refine ⟨m, w, S, Up.refl _, .iface T (a.eval x), by simp [execOp, hop, Instr.makeInterface, run_underlying hu], ?_⟩
      simp only [Rel]
      exact ⟨_, rfl, ev_sound S hv⟩
    · cases h
  | typeAssert x xT T ok =>
    cases ok with
    | false => simp [hop, opV] at h
    | true =>
      simp only [hop, opV] at h
      split at h
      · rename_i t v fs hv hu
        have hR := ev_sound S hv
        simp only [Rel] at hR
        obtain ⟨u, he, hr⟩ := hR
        split at h
        · rename_i ht
          simp only [Option.some.injEq, Prod.mk.injEq] at h
          obtain ⟨rfl, rfl⟩ := h
          refine ⟨m, w, S, Up.refl _, .tuple #[u, .bool true], ?_, ?_⟩
          · simp [execOp, hop, he, Instr.typeAssert, run_underlying hu, ht]
          · simp only [Rel, RelL]
            exact ⟨_, rfl, u, _, rfl, hr, _, _, rfl, rfl, rfl⟩
        · rename_i ht
          split at h
          · rename_i z hz
            simp only [Option.some.injEq, Prod.mk.injEq] at h
            obtain ⟨rfl, rfl⟩ := h
            obtain ⟨uz, hrun, hrz⟩ := zeroVal_sound (E := env C s.h m w) hz w
            refine ⟨m, w, S, Up.refl _, .tuple #[uz, .bool false], ?_, ?_⟩
            · simp [execOp, hop, he, Instr.typeAssert, run_underlying hu, ht, hrun]
            · simp only [Rel, RelL]
              exact ⟨_, rfl, uz, _, rfl, hrz, _, _, rfl, rfl, rfl⟩
          · cases h
      · cases h
  | makeMap T r =>
    cases r with
    | some z => simp [hop, opV] at h
    | none =>
      simp only [hop, opV, Option.some.injEq, Prod.mk.injEq] at h
      obtain ⟨rfl, rfl⟩ := h
      obtain ⟨u, m', w', hr, S', hR, hU⟩ := makeMap_sound (P := P) S T
      exact ⟨m', w', S', hU, u, by simp [execOp, hop, hr], hR⟩
  | insert T mm k x =>
    simp only [hop, opV] at h
    split at h
    · rename_i mv kv v h1 h2 h3
      split at h
      · rename_i h4 hu
        simp only [Option.some.injEq, Prod.mk.injEq] at h
        obtain ⟨rfl, rfl⟩ := h
        obtain ⟨m', w', hr, S', hU⟩ := updateH_sound F S (ev_sound S h1) (ev_sound S h2) (ev_sound S h3) hu
        exact ⟨m', w', S', hU, by simp [execOp, hop, hr]⟩
      · cases h
    · cases h
  | mapUpdate T mm k x =>
    simp only [hop, opV] at h
    split at h
    · rename_i mv kv v h1 h2 h3
      split at h
      · rename_i h4 hu
        simp only [Option.some.injEq, Prod.mk.injEq] at h
        obtain ⟨rfl, rfl⟩ := h
        obtain ⟨m', w', hr, S', hU⟩ := updateH_sound F S (ev_sound S h1) (ev_sound S h2) (ev_sound S h3) hu
        exact ⟨m', w', S', hU, by simp [execOp, hop, hr]⟩
      · cases h
    · cases h
  | lookup T x k ok =>
    simp only [hop, opV] at h
    split at h
    · rename_i v kv h1 h2
      split at h
      · rename_i y hl
        simp only [Option.some.injEq, Prod.mk.injEq] at h
        obtain ⟨rfl, rfl⟩ := h
        obtain ⟨u, hr, hR⟩ := lookupV_sound F S (ev_sound S h1) (ev_sound S h2) hl
        exact ⟨m, w, S, Up.refl _, u, by simp [execOp, hop, hr], hR⟩
      · cases h
    · cases h
  | call c =>
    obtain ⟨callee, args, ts⟩ := c
    cases callee with
    | builtin b =>
      simp only [hop, opV] at h
      split at h
      · rename_i x T h1 h2
        obtain ⟨args⟩ := args
        obtain ⟨ts⟩ := ts
        simp only at h1 h2; subst h1; subst h2
        split at h
        · rename_i v hv
          split at h
          · rename_i y hy
            simp only [Option.some.injEq, Prod.mk.injEq] at h
            obtain ⟨rfl, rfl⟩ := h
            obtain ⟨u, hr, hR⟩ := lenV_sound (ty := o.type) S (ev_sound S hv) hy
            exact ⟨m, w, S, Up.refl _, u, by simp [execOp, hop, resolve, invoke, builtin, hr], hR⟩
          · cases h
        · cases h
      · rename_i x y T T' h1 h2
        obtain ⟨args⟩ := args
        obtain ⟨ts⟩ := ts
        simp only at h1 h2; subst h1; subst h2
        split at h
        · rename_i v u hv hu
          split at h
          · rename_i hT; subst hT
            split at h
            · rename_i z h1 hz
              simp only [Option.some.injEq, Prod.mk.injEq] at h
              obtain ⟨rfl, rfl⟩ := h
              obtain ⟨u', m', w', hr, S', hR, hU⟩ := appendD_sound (ty := o.type) S (ev_sound S hv) (ev_sound S hu) hz
              exact ⟨m', w', S', hU, u', by simp [execOp, hop, resolve, invoke, builtin, hr], hR⟩
            · cases h
          · cases h
        · cases h
      · rename_i x y h1
        obtain ⟨args⟩ := args
        simp only at h1; subst h1
        split at h
        · rename_i k a0 k' b0 hv hu
          simp only [Option.some.injEq, Prod.mk.injEq] at h
          obtain ⟨rfl, rfl⟩ := h
          have e1 := ev_sound S hv
          have e2 := ev_sound S hu
          simp only [Rel] at e1 e2
          exact ⟨m, w, S, Up.refl _, .int k (if b0 > a0 then b0 else a0), by simp [execOp, hop, resolve, invoke, builtin, e1, e2, Builtin.max_, Builtin.max2], by simp only [Rel]⟩
        · cases h
      · rename_i x y h1
        obtain ⟨args⟩ := args
        simp only at h1; subst h1
        split at h
        · rename_i k a0 k' b0 hv hu
          simp only [Option.some.injEq, Prod.mk.injEq] at h
          obtain ⟨rfl, rfl⟩ := h
          have e1 := ev_sound S hv
          have e2 := ev_sound S hu
          simp only [Rel] at e1 e2
          exact ⟨m, w, S, Up.refl _, .int k (if b0 < a0 then b0 else a0), by simp [execOp, hop, resolve, invoke, builtin, e1, e2, Builtin.min_, Builtin.min2], by simp only [Rel]⟩
        · cases h
      · cases h
    | _ => simp only [hop, opV] at h; cases h
  | _ => simp only [hop, opV] at h; cases h
end Go.Ab
