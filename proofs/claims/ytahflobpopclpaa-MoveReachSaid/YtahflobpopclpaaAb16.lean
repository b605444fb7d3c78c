import Derived.Test.YtahflobpopclpaaAb15
namespace Go.Ab
open Go Go.RowKit
set_option linter.unusedVariables false

theorem RelL.undefs {E : Env} : ∀ (n : Nat), RelL E (List.replicate n .undef) (List.replicate n undef)
  | 0 => by simp only [List.replicate_zero, RelL]
  | n + 1 => by simp only [List.replicate_succ, RelL]; exact ⟨_, _, rfl, by simp only [Rel], RelL.undefs n⟩
theorem grownBy_put (w : World) (b : Nat) (o : Obj) : w.grownBy (w.putObj b o) (some b) :=
  ⟨rfl, rfl, rfl, by simp, fun k hk hne => World.putObj_heap_other (fun e => hne (by rw [e]))⟩
theorem RelObj.kind {C : Ctx} {E : Env} {v : Value} {o : AObj} (h : RelObj C E v o) (ho : o ≠ .dead) {b : Nat} (hb : blk v = some b) : ∃ ob, E.w.heap[b]? = some ob ∧ ∀ x, ob ≠ .deferred x := by
  cases o with
  | box T cs => obtain ⟨b', vs, rfl, h1, h2, h3⟩ := h; simp only [blk, Option.some.injEq] at hb; subst hb; exact ⟨_, h2, by simp⟩
  | arr T sz rows fr =>
    obtain ⟨us, ⟨h0, h1⟩, h2, h3⟩ := h
    rcases h1 with ⟨rfl, _⟩ | ⟨g, cap, cur, rfl, hg, hh, hr⟩
    · simp [blk] at hb
    · simp only [blk, Option.some.injEq] at hb; subst hb; exact ⟨_, hh, by simp⟩
  | map es => obtain ⟨b', clock, es', rfl, h1, h2, h3, h4⟩ := h; simp only [blk, Option.some.injEq] at hb; subst hb; exact ⟨_, h2, by simp⟩
  | que T sz rows =>
    obtain ⟨us, j, hj, ⟨h0, h1⟩, h2, h3⟩ := h
    rcases h1 with ⟨rfl, _⟩ | ⟨g, cap, cur, rfl, hg, hh, hr⟩
    · simp [blk] at hb
    · simp only [blk, Option.some.injEq] at hb; subst hb; exact ⟨_, hh, by simp⟩
  | loop st pe t ps as bd => obtain ⟨b', fn, us, df, rfl, h1, h2, h3⟩ := h; simp only [blk, Option.some.injEq] at hb; subst hb; exact ⟨_, h2, by simp⟩
  | dead => exact absurd rfl ho
/-- A mark's block is shut. -/
theorem Sim.shut {C : Ctx} {s : St} {m : List Value} {tm : Array Value} {ms : List Deferred} {w : World} {E0 : Env} {d : Deferred} (S : Sim C s m ⟨tm, d :: (ms ++ C.base)⟩ w) (h0 : E0.w.heap.size ≤ C.at0) (L : LeN E0 (env C s.h m w)) (hm : ∀ x ∈ d :: ms, Mark C (env C s.h m w) x) (hp : (d :: ms).Pairwise (fun x y => x.target ≠ y.target)) :
    ∃ b w', d.target = .collected b ∧ w.heap[b]? = some (.deferred (some [])) ∧ w' = w.putObj b (.deferred none) ∧ Sim C s m ⟨tm, ms ++ C.base⟩ w' ∧ LeN E0 (env C s.h m w') ∧ (∀ x ∈ ms, Mark C (env C s.h m w') x) := by
  obtain ⟨⟨ha1, ha2⟩, _⟩ := S.defers
  obtain ⟨b, rfl, h1, h2, h3, h4⟩ := hm d (by simp)
  have h4' : w.heap[b]? = some (.deferred (some [])) := h4
  have LC : Env.LeC (fun _ => true) (env C s.h m w) (env C s.h m (w.putObj b (.deferred none))) := by
    refine ⟨fun b _ h => h, fun ad u hlt hn hc => ?_, by simp [env], fun i _ v h _ => h, fun i _ h => ⟨h, fun T sz rows fr ho => ⟨T, rows, fr, ho, Nat.le_refl _, fun _ => rfl⟩⟩, fun i _ T sz rows ho => ⟨rows, ho, Nat.le_refl _, fun _ => rfl⟩⟩
    rw [← hc]
    refine cell_same (World.putObj_heap_other (fun e => ?_))
    simp only [env] at hc
    unfold World.cell? at hc
    rw [e, h4'] at hc
    simp at hc
  rw [List.pairwise_cons] at hp
  have hmarks : ∀ x ∈ ms, Mark C (env C s.h m (w.putObj b (.deferred none))) x := fun d' hd' => by
    obtain ⟨b', he, k1, k2, k3, k4⟩ := hm d' (by simp [hd'])
    have hne : b' ≠ b := fun e => hp.1 d' hd' (by rw [he, e])
    exact ⟨b', he, k1, by simpa [env] using k2, k3, (World.putObj_heap_other hne).trans k4⟩
  refine ⟨b, _, rfl, h4', rfl, ⟨?_, S.out, S.len, RelL.monoC LC _ _ (V.allL_true _) S.slots, ⟨⟨ha1, by simpa [env] using ha2⟩, ms, rfl, hmarks, hp.2⟩, fun i o v ho hv => ?_, S.apart, fun i v b' hv hb => ?_⟩, ⟨L.len, ?_⟩, hmarks⟩
  · exact S.below.grown (grownBy_put w b (.deferred none)) S.below.size (fun k hk => by cases hk; omega)
  · by_cases hd : o = .dead
    · subst hd; trivial
    · have hr := S.objs i o v ho hv
      refine RelObj.monoC LC (o := o) (by cases o <;> simp [AObj.all, V.allL_true]) (fun b' hb' => World.putObj_heap_other (fun e => ?_)) hr
      obtain ⟨ob, k1, k2⟩ := hr.kind hd hb'
      subst e
      rw [h4] at k1
      cases k1
      exact k2 _ rfl
  · have := S.low i v b' hv hb
    exact ⟨this.1, by simpa using this.2⟩
  · refine ⟨L.le.nb, fun b' hb' hn => ?_, by simpa [env] using L.le.sz, L.le.mp, L.le.ma, L.le.mq⟩
    exact (World.putObj_heap_other (fun e => by omega)).trans (L.le.wk b' hb' hn)
theorem leaves_marks' {P : Program} {fn : Func} {C : Ctx} {s : St} {m : List Value} {tm : Array Value} {E0 : Env} (h0 : E0.w.heap.size ≤ C.at0) {R : Ending → World → Prop} {u : FrameMode} (hu : u ≠ .run)
    (k : ∀ w', Sim C s m ⟨tm, C.base⟩ w' → LeN E0 (env C s.h m w') → LeavesInM Fence.wide 0 P fn tm R C.base u w') : ∀ (ms : List Deferred) {w : World}, (∀ x ∈ ms, Mark C (env C s.h m w) x) → ms.Pairwise (fun x y => x.target ≠ y.target) → Sim C s m ⟨tm, ms ++ C.base⟩ w → LeN E0 (env C s.h m w) → LeavesInM Fence.wide 0 P fn tm R (ms ++ C.base) u w
  | [], w, _, _, S, L => k w S L
  | d :: ds, w, hm, hp, S, L => by
    obtain ⟨b, w', h1, h2, rfl, S', L', hm'⟩ := Sim.shut S h0 L hm hp
    rw [List.pairwise_cons] at hp
    show LeavesInM Fence.wide 0 P fn tm R (d :: (ds ++ C.base)) u w
    unfold LeavesInM
    exact ⟨hu, .inl ⟨b, _, h1, run_takeDeferred h2, leaves_marks' h0 hu k ds hm' hp.2 S' L'⟩⟩
theorem leaves_mk {P : Program} {fn : Func} {C : Ctx} {s : St} {m : List Value} {a : Act} {E0 : Env} (h0 : E0.w.heap.size ≤ C.at0) {R : Ending → World → Prop} {u : FrameMode} (hu : u ≠ .run)
    (k : ∀ w', Sim C s m ⟨a.tmps, C.base⟩ w' → LeN E0 (env C s.h m w') → LeavesInM Fence.wide 0 P fn a.tmps R C.base u w') {w : World} (S : Sim C s m a w) (L : LeN E0 (env C s.h m w)) : LeavesInM Fence.wide 0 P fn a.tmps R a.defers u w := by
  obtain ⟨_, ms, h1, h2, h3⟩ := S.defers
  obtain ⟨tm, ds⟩ := a
  simp only at h1
  subst h1
  exact leaves_marks' h0 hu k ms h2 h3 S L
theorem leaves_marks {P : Program} {fn : Func} {C : Ctx} {s : St} {m : List Value} {a : Act} {E0 : Env} (hb : C.base = []) (h0 : E0.w.heap.size ≤ C.at0) {R : Ending → World → Prop}
    (k : ∀ w', Sim C s m ⟨a.tmps, []⟩ w' → LeN E0 (env C s.h m w') → ∃ v, (results fn a.tmps).run P w' = .ok v w' ∧ R (.returned v) w') {w : World} (S : Sim C s m a w) (L : LeN E0 (env C s.h m w)) : LeavesInM Fence.wide 0 P fn a.tmps R a.defers .returning w := by
  refine leaves_mk h0 (by simp) (fun w' S' L' => ?_) S L
  rw [hb] at S' ⊢
  unfold LeavesInM
  exact k w' S' L'
/-- The slots when a function is entered. -/
def enter (fn : Func) (args : List V) : List V := args ++ List.replicate (fn.ntmps - args.length) .undef
/-- A call, told by its body's walk: the heap stays the caller's, but for what is told. -/
theorem RetS_intro {P : Program} {f : FuncId} {fn : Func} {c : Code} {args : List V} {h h' : List AObj} {r : V} (hf : P.funcs[f]? = some fn) (hb : fn.body = some c)
    (hT : T P h.length none c ⟨enter fn args, h⟩ (fun x s => (match x with | .normal | .ret => True | _ => False) ∧ resV P fn s = some r ∧ ∃ n, h.length ≤ n ∧ n ≤ s.h.length ∧ s.h.take n = h' ∧ r.all (fun i => decide (i < n)) = true ∧ ∀ o ∈ h', o.all (fun i => decide (i < n)) = true)) :
    RetS P f args h r h' := by
  intro C t m a w cargs S hR
  refine (callsIn_wide (n := 0)).1 ?_
  refine callsIn_of_wp_marks hf hb trivial ?_
  have hlen := hR.length
  have S0 : Sim { C with at0 := w.heap.size, base := [] } ⟨enter fn args, h⟩ m { tmps := cargs ++ Array.replicate (fn.ntmps - cargs.size) undef, defers := [] } w := by
    refine ⟨S.below, S.out, S.len, ?_, Marks.nil S.below.size (Nat.le_refl _), S.objs, S.apart, S.low⟩
    simp only [enter, Array.toList_append, Array.toList_replicate]
    have : args.length = cargs.size := by simpa using hlen
    rw [this]
    exact hR.append (RelL.undefs _)
  have hw := hT { C with at0 := w.heap.size, base := [] } (env C h m w) m _ w rfl (LeN.refl _) S0
  refine wpIn_mono hw ?_
  rintro e a' w' ⟨s', m', ⟨hx, hres, n, hn1, hn2, hn3, hr, ho⟩, S', L'⟩
  have post : LeavesInM Fence.wide 0 P fn a'.tmps (fun e w' => ∃ v_1 m', e = .returned v_1 ∧ Sim C ⟨t, h'⟩ m' a w' ∧ Rel (env C h' m' w') r v_1 ∧ LeN (env C h m w) (env C h' m' w')) a'.defers .returning w' := by
    refine leaves_marks (C := { C with at0 := w.heap.size, base := [] }) (E0 := env C h m w) (s := s') (m := m') rfl (Nat.le_refl _) (fun w' S' L' => ?_) S' L'
    obtain ⟨v, hv, hrv⟩ := resV_sound S' hres
    -- the caller's slots live on
    have hslots : RelL (env C s'.h m' w') t a.tmps.toList := RelL.leN L' (by simp only [env]; exact Nat.le_of_eq S.len) S.slots
    have hids : V.allL (fun i => decide (i < n)) t = true := by
      have h1 := RelL.ids (N := h.length) (by simp only [env]; exact Nat.le_of_eq S.len) (by simp only [env]; exact Nat.le_refl _) t S.slots
      exact V.allL_imp (fun i hi => by simp at *; omega) t h1
    have S1 : Sim C ⟨t, s'.h⟩ m' a w' := ⟨S'.below, S'.out, S'.len, hslots, S.defers.le L'.le, S'.objs, S'.apart, S'.low⟩
    obtain ⟨S2, hL2, hL3⟩ := S1.cut n hn2 hids (by rw [hn3]; exact ho)
    have hL := hL2 (env C h m w) hn1 L'
    simp only [hn3] at S2 hL hL3
    exact ⟨v, hv, v, m'.take n, rfl, S2, Rel.mono hL3 r v hr hrv, hL⟩
  cases e with
  | normal => exact post
  | ret => exact post
  | _ => exact hx.elim
/-! ### calls that are handed data alone -/
/-- Calling f with data hands back data; all that was there stays as it was. -/
def Ret (P : Program) (f : FuncId) (args : List V) (r : V) : Prop :=
  ∀ (bad : Nat → Prop) (w : World) (cargs : Array Value), (∀ b, bad b → b < w.heap.size) → RelL ⟨bad, [], [], w⟩ args cargs.toList →
    Calls P f cargs w fun e w' => ∃ v, e = .returned v ∧ Rel ⟨bad, [], [], w'⟩ r v ∧ Below w.heap.size w w'
theorem Ret_intro {P : Program} {f : FuncId} {fn : Func} {c : Code} {args : List V} {r : V} (hf : P.funcs[f]? = some fn) (hb : fn.body = some c)
    (hT : T P 0 none c ⟨enter fn args, []⟩ (fun x s => (match x with | .normal | .ret => True | _ => False) ∧ ∃ r0, resV P fn s = some r0 ∧ convT (fun _ => true) s.h r0 = some r)) : Ret P f args r := by
  intro bad w cargs hbad hR
  refine (callsIn_wide (n := 0)).1 ?_
  refine callsIn_of_wp_marks hf hb trivial ?_
  have hlen := hR.length
  have hle : Env.Le (fun _ => true) ⟨bad, [], [], w⟩ (env ⟨bad, w, w.heap.size, []⟩ [] [] w) :=
    ⟨fun b _ h => by rcases h with h | ⟨i, o, v, h1, _⟩; exact h; simp at h1, fun _ _ _ => rfl, Nat.le_refl _, fun i _ v h => by simp at h, fun i _ h => by simp at h, fun i _ T sz rows h => by simp at h⟩
  have S0 : Sim ⟨bad, w, w.heap.size, []⟩ ⟨enter fn args, []⟩ [] { tmps := cargs ++ Array.replicate (fn.ntmps - cargs.size) undef, defers := [] } w := by
    refine ⟨Below.refl _ _, hbad, rfl, ?_, Marks.nil (Nat.le_refl _) (Nat.le_refl _), fun i o v h => by simp at h, fun i j v u b _ h => by simp at h, fun i v b h => by simp at h⟩
    simp only [enter, Array.toList_append, Array.toList_replicate]
    have : args.length = cargs.size := by simpa using hlen
    rw [this]
    exact (hR.le hle).append (RelL.undefs _)
  have hw := hT ⟨bad, w, w.heap.size, []⟩ (env ⟨bad, w, w.heap.size, []⟩ [] [] w) [] _ w rfl (LeN.refl _) S0
  refine wpIn_mono hw ?_
  rintro e a' w' ⟨s', m', ⟨hx, r0, hres, hconv⟩, S', L'⟩
  have post : LeavesInM Fence.wide 0 P fn a'.tmps (fun e w' => ∃ v_1, e = .returned v_1 ∧ Rel ⟨bad, [], [], w'⟩ r v_1 ∧ Below w.heap.size w w') a'.defers .returning w' := by
    refine leaves_marks (C := ⟨bad, w, w.heap.size, []⟩) (E0 := env ⟨bad, w, w.heap.size, []⟩ [] [] w) (s := s') (m := m') rfl (Nat.le_refl _) (fun w' S' L' => ?_) S' L'
    obtain ⟨v, hv, hrv⟩ := resV_sound S' hres
    have hd := convT_sound S' (ok := fun _ => true) (bad := bad) (fun b _ h => .inl h) (fun i T sz rows fr v b ho _ hm hb' hbd => by
      have := (S'.low i v b hm hb').1
      have h2 := hbad b hbd
      simp only at this
      omega) hrv hconv
    exact ⟨v, hv, v, rfl, hd.1, S'.below⟩
  cases e with
  | normal => exact post
  | ret => exact post
  | _ => exact hx.elim
/-- A row of one's own is written no more. -/
def frz1 (h : List AObj) : V → List AObj
  | .arr i _ => match h[i]? with
    | some (.arr T sz rows false) => h.set i (.arr T sz rows true)
    | _ => h
  | _ => h
def frzL (h : List AObj) : List V → List AObj
  | [] => h
  | c :: cs => frzL (frz1 h c) cs
def frzD (h : List AObj) : List V → List AObj
  | [] => h
  | .agg cs :: xs => frzD (frzL h cs) xs
  | x :: xs => frzD (frz1 h x) xs
theorem grownBy_refl (w : World) (row : Option Nat) : w.grownBy w row := ⟨rfl, rfl, rfl, Nat.le_refl _, fun _ _ _ => rfl⟩
theorem frz1_sound {C : Ctx} {s : St} {m : List Value} {a : Act} {w : World} (S : Sim C s m a w) (x : V) : Sim C ⟨s.t, frz1 s.h x⟩ m a w ∧ Up (env C s.h m w) (env C (frz1 s.h x) m w) := by
  unfold frz1
  split
  · rename_i i n
    split
    · rename_i T sz rows ho
      have hlt : i < m.length := by rw [S.len]; exact (List.getElem?_eq_some_iff.1 ho).1
      have hm : m[i]? = some m[i] := List.getElem?_eq_getElem hlt
      obtain ⟨h1, h2⟩ := S.turn (o' := .arr T sz rows true) (v' := m[i]) ho hm rfl (.inr (.inl ⟨T, sz, rows, rows, false, true, rfl, rfl, Nat.le_refl _, fun _ => rfl⟩)) (grownBy_refl w _) (.inl rfl) (fun L => by
        obtain ⟨us, h1, h2, h3⟩ := S.objs i _ _ ho hm
        exact ⟨us, h1, h2.le L, h3⟩)
      rw [List.set_getElem_self] at h1 h2
      exact ⟨h1, h2⟩
    · exact ⟨S, Up.refl _⟩
  · exact ⟨S, Up.refl _⟩
theorem Up.trans {A B D : Env} (h : Up A B) (k : Up B D) : Up A D := ⟨Nat.le_trans h.1 k.1, h.2.trans k.2⟩
theorem frzL_sound {C : Ctx} {t : List V} {m : List Value} {a : Act} {w : World} : ∀ (xs : List V) {h : List AObj} (S : Sim C ⟨t, h⟩ m a w), Sim C ⟨t, frzL h xs⟩ m a w ∧ Up (env C h m w) (env C (frzL h xs) m w)
  | [], h, S => ⟨S, Up.refl _⟩
  | c :: cs, h, S => by
    obtain ⟨S1, U1⟩ := frz1_sound S c
    obtain ⟨S2, U2⟩ := frzL_sound cs S1
    exact ⟨S2, U1.trans U2⟩
theorem frzD_sound {C : Ctx} {t : List V} {m : List Value} {a : Act} {w : World} : ∀ (xs : List V) {h : List AObj} (S : Sim C ⟨t, h⟩ m a w), Sim C ⟨t, frzD h xs⟩ m a w ∧ Up (env C h m w) (env C (frzD h xs) m w)
  | [], h, S => ⟨S, Up.refl _⟩
  | x :: xs, h, S => by
    have key : ∀ h1, Sim C ⟨t, h1⟩ m a w → Up (env C h m w) (env C h1 m w) → frzD h (x :: xs) = frzD h1 xs → Sim C ⟨t, frzD h (x :: xs)⟩ m a w ∧ Up (env C h m w) (env C (frzD h (x :: xs)) m w) := fun h1 S1 U1 e => by
      obtain ⟨S2, U2⟩ := frzD_sound xs S1
      rw [e]
      exact ⟨S2, U1.trans U2⟩
    by_cases hx : ∃ cs, x = .agg cs
    · obtain ⟨cs, rfl⟩ := hx
      obtain ⟨S1, U1⟩ := frzL_sound cs S
      exact key _ S1 U1 rfl
    · obtain ⟨S1, U1⟩ := frz1_sound S x
      exact key _ S1 U1 (by cases x <;> first | rfl | exact absurd ⟨_, rfl⟩ hx)
theorem Ret.shared {P : Program} {f : FuncId} {dargs args : List V} {r : V} {h h1 : List AObj} (hr : Ret P f dargs r) (hf : frzD h args = h1) (hc : convDL (fun b => b) h1 args = some dargs) : RetS P f args h r h1 := by
  intro C t m a w cargs S hR
  obtain ⟨S1, U1⟩ := frzD_sound args S
  rw [hf] at S1 U1
  have hR1 := hR.le U1.2
  have hbad : ∀ b, (env C h1 m w).bad b → b < w.heap.size := fun b hb => by
    rcases hb with hb | ⟨i, o, v, _, _, h3, h4⟩
    · exact Nat.lt_of_lt_of_le (S.out b hb) S.below.size
    · exact (S1.low i v b h3 h4).2
  obtain ⟨hD, _⟩ := convDL_sound S1 (ok := fun b => b) (bad := (env C h1 m w).bad) (fun b _ h => h) (fun i T sz rows fr v b ho hfr hm hb hbd => by
    rcases hbd with hbd | ⟨j, o, u, h2, h3, h4, h5⟩
    · have h6 := (S1.low i v b hm hb).1
      have h7 := S.out b hbd
      omega
    · by_cases hij : i = j
      · subst hij
        rw [ho] at h2; cases h2
        simp [AObj.live, hfr] at h3
      · exact S1.apart i j v u b hij hm h4 hb h5) hR1 hc
  refine Calls.mono (hr _ w cargs hbad hD) ?_
  rintro e w' ⟨v, rfl, hrel, hbel⟩
  refine ⟨v, m, rfl, S1.world hbel, ?_, U1.leN.trans (LeN.of (Nat.le_refl _) (le_world hbel))⟩
  have hids := Rel.ids (N := 0) (by simp) (by simp) r v hrel
  refine Rel.mono (p := fun i => decide (i < 0)) (E := ⟨(env C h1 m w).bad, [], [], w'⟩) (E' := env C h1 m w') ⟨fun b _ h => h, fun _ _ _ => rfl, Nat.le_refl _, fun i hi => by simp at hi, fun i hi => by simp at hi, fun i hi => by simp at hi⟩ r v hids hrel
end Go.Ab
