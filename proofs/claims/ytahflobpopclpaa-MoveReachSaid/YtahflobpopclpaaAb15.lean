import Derived.Test.YtahflobpopclpaaAb14
namespace Go.Ab
open Go Go.RowKit
set_option linter.unusedVariables false

/-! ### results -/
def res1 (P : Program) (s : St) : ResultVar → Option V
  | .tmp t => s.t[t]?
  | .cell p T => match s.t[p]? with
    | some x => loadV P s.h T x
    | none => none
def resL (P : Program) (s : St) : List ResultVar → Option (List V)
  | [] => some []
  | x :: xs => match res1 P s x, resL P s xs with
    | some v, some vs => some (v :: vs)
    | _, _ => none
def resV (P : Program) (fn : Func) (s : St) : Option V :=
  match resL P s fn.results.toList with
  | some [x] => some x
  | some xs => some (.tup xs)
  | none => none
theorem slot_sound {C : Ctx} {s : St} {m : List Value} {a : Act} {w : World} (S : Sim C s m a w) {t : Nat} {v : V} (h : s.t[t]? = some v) : Rel (env C s.h m w) v (a.tmps.getD t undef) := ev_sound (x := .tmp t) S h
theorem loadV_ptr {P : Program} {C : Ctx} {s : St} {m : List Value} {a : Act} {w : World} (S : Sim C s m a w) {T : TypeId} {x y : V} {u : Value} (hx : Rel (env C s.h m w) x u) (hl : loadV P s.h T x = some y) : ∃ ad, u = .pointer (some ad) := by
  unfold loadV at hl
  split at hl
  · rename_i cs hk hc
    obtain ⟨ad, h, _⟩ := cellsAt_sound S hx hc
    exact ⟨ad, h⟩
  · rename_i c cs hk hc
    obtain ⟨ad, h, _⟩ := cellsAt_sound S hx hc
    exact ⟨ad, h⟩
  · cases hl
def readRes (tmps : Array Value) : ResultVar → Sem Value
  | .tmp t => pure (tmps.getD t undef)
  | .cell p T => do loadVar T (← asAddr (tmps.getD p undef))
theorem results_eq (fn : Func) (tmps : Array Value) : results fn tmps = (do
    let vs ← fn.results.mapM (readRes tmps)
    pure (if h : vs.size = 1 then vs[0] else .tuple vs)) := by
  unfold results
  congr 1
theorem resL_sound {P : Program} {C : Ctx} {s : St} {m : List Value} {a : Act} {w : World} (S : Sim C s m a w) : ∀ {rs : List ResultVar} {vs : List V}, resL P s rs = some vs →
    ∃ us, (rs.mapM (readRes a.tmps)).run P w = .ok us w ∧ RelL (env C s.h m w) vs us
  | [], vs, h => by simp only [resL, Option.some.injEq] at h; subst h; exact ⟨[], by simp, by simp [RelL]⟩
  | x :: xs, vs, h => by
    simp only [resL] at h
    split at h
    · rename_i v vs' h1 h2
      simp only [Option.some.injEq] at h; subst h
      obtain ⟨us, hu, hR⟩ := resL_sound S h2
      cases x with
      | tmp t =>
        simp only [res1] at h1
        exact ⟨a.tmps.getD t undef :: us, by simp only [List.mapM_cons, readRes, Sem.run_bind, Sem.run_pure, Result.andThen_ok, hu], by simp only [RelL]; exact ⟨_, _, rfl, slot_sound S h1, hR⟩⟩
      | cell p T =>
        simp only [res1] at h1
        split at h1
        · rename_i x hx
          obtain ⟨u, hr, hy⟩ := loadV_sound S (slot_sound S hx) h1
          obtain ⟨ad, he⟩ := loadV_ptr S (slot_sound S hx) h1
          rw [he] at hr
          simp only [Instr.loadAt, Instr.sureAddr, Sem.run_bind, Sem.run_pure, Result.andThen_ok] at hr
          refine ⟨u :: us, ?_, by simp only [RelL]; exact ⟨_, _, rfl, hy, hR⟩⟩
          simp only [List.mapM_cons, readRes, Sem.run_bind, Sem.run_pure, Result.andThen_ok, hu, he, asAddr, hr]
        · cases h1
    · cases h
theorem resV_sound {P : Program} {fn : Func} {C : Ctx} {s : St} {m : List Value} {a : Act} {w : World} (S : Sim C s m a w) {r : V} (h : resV P fn s = some r) : ∃ v, (results fn a.tmps).run P w = .ok v w ∧ Rel (env C s.h m w) r v := by
  unfold resV at h
  have key : ∀ vs, resL P s fn.results.toList = some vs → ∃ us : List Value, (results fn a.tmps).run P w = .ok (if h : us.toArray.size = 1 then us.toArray[0] else .tuple us.toArray) w ∧ RelL (env C s.h m w) vs us := fun vs hv => by
    obtain ⟨us, hu, hR⟩ := resL_sound S hv
    refine ⟨us, ?_, hR⟩
    rw [results_eq]
    simp [Array.mapM_eq_mapM_toList, hu]
  split at h
  · rename_i x hx
    simp only [Option.some.injEq] at h; subst h
    obtain ⟨us, hrun, hR⟩ := key _ hx
    simp only [RelL] at hR
    obtain ⟨u, us', rfl, hr, rfl⟩ := hR
    exact ⟨u, by simpa using hrun, hr⟩
  · rename_i xs hne hx
    simp only [Option.some.injEq] at h; subst h
    obtain ⟨us, hrun, hR⟩ := key _ hx
    have hl := hR.length
    refine ⟨.tuple us.toArray, ?_, ?_⟩
    · rw [hrun, dif_neg]
      intro e
      simp at e
      obtain ⟨y, rfl⟩ := List.length_eq_one_iff.1 (hl.trans e)
      exact hne y rfl
    · simp only [Rel]; exact ⟨_, rfl, hR⟩
  · cases h
/-! ### values that are data alone -/
/-- Rows of one's own become slices that are only read; whether that is let by hangs on whether they are frozen. -/
def conv (ok : Bool → Bool) (h : List AObj) : V → Option V
  | .arr i n => match h[i]? with
    | some (.arr _ sz rows fr) => if n = rows.length ∧ ok fr = true ∧ V.allR (fun _ => false) rows = true then some (.sl sz rows) else none
    | _ => none
  | x => if x.all (fun _ => false) = true then some x else none
def convL (ok : Bool → Bool) (h : List AObj) : List V → Option (List V)
  | [] => some []
  | c :: cs => match conv ok h c, convL ok h cs with
    | some x, some xs => some (x :: xs)
    | _, _ => none
/-- The same, one level down. -/
def convD (ok : Bool → Bool) (h : List AObj) : V → Option V
  | .agg cs => match convL ok h cs with
    | some xs => some (.agg xs)
    | none => none
  | .tup cs => match convL ok h cs with
    | some xs => some (.tup xs)
    | none => none
  | x => conv ok h x
def convDL (ok : Bool → Bool) (h : List AObj) : List V → Option (List V)
  | [] => some []
  | c :: cs => match convD ok h c, convDL ok h cs with
    | some x, some xs => some (x :: xs)
    | _, _ => none
/-- Struct within tuples: two levels. -/
def convT (ok : Bool → Bool) (h : List AObj) : V → Option V
  | .tup cs => match convDL ok h cs with
    | some xs => some (.tup xs)
    | none => none
  | x => convD ok h x
theorem allR_flatten {p : Nat → Bool} : ∀ (rows : List (List V)), V.allR p rows = V.allL p rows.flatten
  | [] => by simp only [V.allR, List.flatten_nil, V.allL]
  | r :: rs => by
    have happ : ∀ (xs ys : List V), V.allL p (xs ++ ys) = (V.allL p xs && V.allL p ys) := fun xs => by
      induction xs with
      | nil => intro ys; simp [V.allL]
      | cons c cs ih => intro ys; simp [V.allL, ih, Bool.and_assoc]
    simp only [V.allR, List.flatten_cons, happ, allR_flatten rs]
structure Less (E : Env) (bad : Nat → Prop) : Prop where
  nb : ∀ b, bad b → E.bad b
theorem data_le {E : Env} {bad : Nat → Prop} (hb : ∀ b, b < E.w.heap.size → bad b → E.bad b) : Env.Le (fun _ => false) E ⟨bad, [], [], E.w⟩ :=
  ⟨hb, fun _ _ _ => rfl, Nat.le_refl _, fun _ hi => (by cases hi), fun _ hi => (by cases hi), fun _ hi => (by cases hi)⟩
theorem RelRows.chunked {E : Env} {ad : Addr} {sz : Nat} : ∀ {rows : List (List V)} {us : List Value} {k : Nat}, (∀ r ∈ rows, r.length = sz) → RelL E rows.flatten us → (∀ j v, us[j]? = some v → E.w.cell? (ad.add (k + j)) = some v) → RelRows E ad sz k rows
  | [], us, k, _, _, _ => by simp only [RelRows]
  | r :: rs, us, k, hs, h, hc => by
    simp only [List.flatten_cons] at h
    obtain ⟨a, b, rfl, ha, hb⟩ := RelL.split h
    have hl := ha.length
    have hr := hs r (by simp)
    simp only [RelRows]
    refine ⟨hr, RelCells.of ha (fun j v hj => hc j v ?_), RelRows.chunked (fun x hx => hs x (by simp [hx])) hb (fun j v hj => ?_)⟩
    · rw [List.getElem?_append_left (List.getElem?_eq_some_iff.1 hj).1]; exact hj
    · have := hc (sz + j) v (by rw [List.getElem?_append_right (by omega)]; rw [show sz + j - a.length = j by omega]; exact hj)
      rwa [← Nat.add_assoc] at this
theorem conv_sound {C : Ctx} {s : St} {m : List Value} {a : Act} {w : World} (S : Sim C s m a w) {ok : Bool → Bool} {bad : Nat → Prop} (hbad : ∀ b, b < w.heap.size → bad b → (env C s.h m w).bad b)
    (hfz : ∀ (i : Nat) T sz rows fr v b, s.h[i]? = some (.arr T sz rows fr) → ok fr = true → m[i]? = some v → blk v = some b → ¬ bad b) {x d : V} {u : Value} (hx : Rel (env C s.h m w) x u) (h : conv ok s.h x = some d) :
    Rel ⟨bad, [], [], w⟩ d u ∧ d.all (fun _ => false) = true := by
  have hle := data_le (E := env C s.h m w) (bad := bad) hbad
  unfold conv at h
  split at h
  · rename_i i n
    split at h
    · rename_i T sz rows fr ho
      split at h
      · rename_i hc
        simp only [Option.some.injEq] at h; subst h
        obtain ⟨_, _, _, _, us, ho', _, hm, hown, hR, hsz⟩ := cur_arr S hx (by simp [cur, ho, hc.1])
        rw [ho] at ho'; cases ho'
        obtain ⟨A, c, rfl, hnc, hlim, hA, hpos⟩ := owns_shape hown
        have hR' : RelL ⟨bad, [], [], w⟩ rows.flatten us := RelL.mono hle _ _ (by rw [← allR_flatten]; exact hc.2.2) hR
        refine ⟨?_, by simpa only [V.all] using hc.2.2⟩
        simp only [Rel]
        refine ⟨A, c, by rw [← hc.1], ⟨by omega, by omega⟩, ?_⟩
        rcases rows with _ | ⟨r, rs⟩
        · exact .inl rfl
        · obtain ⟨g, rfl⟩ := hpos (by simp)
          refine .inr ⟨_, rfl, hfz i _ _ _ _ _ g ho hc.2.1 hm rfl, own_lt' hown rfl, RelRows.chunked hsz hR' (fun j v hj => ?_)⟩
          have := hown.cells (g := g) rfl j v hj
          simpa using this
      · cases h
    · cases h
  · split at h
    · rename_i ha
      simp only [Option.some.injEq] at h; subst h
      exact ⟨Rel.mono hle _ _ ha hx, ha⟩
    · cases h
theorem convL_sound {C : Ctx} {s : St} {m : List Value} {a : Act} {w : World} (S : Sim C s m a w) {ok : Bool → Bool} {bad : Nat → Prop} (hbad : ∀ b, b < w.heap.size → bad b → (env C s.h m w).bad b)
    (hfz : ∀ (i : Nat) T sz rows fr v b, s.h[i]? = some (.arr T sz rows fr) → ok fr = true → m[i]? = some v → blk v = some b → ¬ bad b) : ∀ {xs ds : List V} {us : List Value}, RelL (env C s.h m w) xs us → convL ok s.h xs = some ds →
    RelL ⟨bad, [], [], w⟩ ds us ∧ V.allL (fun _ => false) ds = true
  | [], ds, us, hx, h => by
    simp only [convL, Option.some.injEq] at h; subst h
    simp only [RelL] at hx; subst hx
    exact ⟨by simp only [RelL], by simp only [V.allL]⟩
  | c :: cs, ds, us, hx, h => by
    simp only [convL] at h
    split at h
    · rename_i x xs h1 h2
      simp only [Option.some.injEq] at h; subst h
      simp only [RelL] at hx
      obtain ⟨u, us', rfl, hu, hus⟩ := hx
      obtain ⟨h3, h4⟩ := conv_sound S hbad hfz hu h1
      obtain ⟨h5, h6⟩ := convL_sound S hbad hfz hus h2
      exact ⟨by simp only [RelL]; exact ⟨u, us', rfl, h3, h5⟩, by simp only [V.allL, h4, h6, Bool.and_self]⟩
    · cases h
theorem convD_sound {C : Ctx} {s : St} {m : List Value} {a : Act} {w : World} (S : Sim C s m a w) {ok : Bool → Bool} {bad : Nat → Prop} (hbad : ∀ b, b < w.heap.size → bad b → (env C s.h m w).bad b)
    (hfz : ∀ (i : Nat) T sz rows fr v b, s.h[i]? = some (.arr T sz rows fr) → ok fr = true → m[i]? = some v → blk v = some b → ¬ bad b) {x d : V} {u : Value} (hx : Rel (env C s.h m w) x u) (h : convD ok s.h x = some d) :
    Rel ⟨bad, [], [], w⟩ d u ∧ d.all (fun _ => false) = true := by
  unfold convD at h
  split at h
  · split at h
    · rename_i xs h1
      simp only [Option.some.injEq] at h; subst h
      simp only [Rel] at hx ⊢
      obtain ⟨vs, rfl, hR⟩ := hx
      obtain ⟨h3, h4⟩ := convL_sound S hbad hfz hR h1
      exact ⟨⟨vs, rfl, h3⟩, by simpa only [V.all] using h4⟩
    · cases h
  · split at h
    · rename_i xs h1
      simp only [Option.some.injEq] at h; subst h
      simp only [Rel] at hx ⊢
      obtain ⟨vs, rfl, hR⟩ := hx
      obtain ⟨h3, h4⟩ := convL_sound S hbad hfz hR h1
      exact ⟨⟨vs, rfl, h3⟩, by simpa only [V.all] using h4⟩
    · cases h
  · exact conv_sound S hbad hfz hx h
theorem convDL_sound {C : Ctx} {s : St} {m : List Value} {a : Act} {w : World} (S : Sim C s m a w) {ok : Bool → Bool} {bad : Nat → Prop} (hbad : ∀ b, b < w.heap.size → bad b → (env C s.h m w).bad b)
    (hfz : ∀ (i : Nat) T sz rows fr v b, s.h[i]? = some (.arr T sz rows fr) → ok fr = true → m[i]? = some v → blk v = some b → ¬ bad b) : ∀ {xs ds : List V} {us : List Value}, RelL (env C s.h m w) xs us → convDL ok s.h xs = some ds →
    RelL ⟨bad, [], [], w⟩ ds us ∧ V.allL (fun _ => false) ds = true
  | [], ds, us, hx, h => by
    simp only [convDL, Option.some.injEq] at h; subst h
    simp only [RelL] at hx; subst hx
    exact ⟨by simp only [RelL], by simp only [V.allL]⟩
  | c :: cs, ds, us, hx, h => by
    simp only [convDL] at h
    split at h
    · rename_i x xs h1 h2
      simp only [Option.some.injEq] at h; subst h
      simp only [RelL] at hx
      obtain ⟨u, us', rfl, hu, hus⟩ := hx
      obtain ⟨h3, h4⟩ := convD_sound S hbad hfz hu h1
      obtain ⟨h5, h6⟩ := convDL_sound S hbad hfz hus h2
      exact ⟨by simp only [RelL]; exact ⟨u, us', rfl, h3, h5⟩, by simp only [V.allL, h4, h6, Bool.and_self]⟩
    · cases h
theorem convT_sound {C : Ctx} {s : St} {m : List Value} {a : Act} {w : World} (S : Sim C s m a w) {ok : Bool → Bool} {bad : Nat → Prop} (hbad : ∀ b, b < w.heap.size → bad b → (env C s.h m w).bad b)
    (hfz : ∀ (i : Nat) T sz rows fr v b, s.h[i]? = some (.arr T sz rows fr) → ok fr = true → m[i]? = some v → blk v = some b → ¬ bad b) {x d : V} {u : Value} (hx : Rel (env C s.h m w) x u) (h : convT ok s.h x = some d) :
    Rel ⟨bad, [], [], w⟩ d u ∧ d.all (fun _ => false) = true := by
  unfold convT at h
  split at h
  · split at h
    · rename_i xs h1
      simp only [Option.some.injEq] at h; subst h
      simp only [Rel] at hx ⊢
      obtain ⟨vs, rfl, hR⟩ := hx
      obtain ⟨h3, h4⟩ := convDL_sound S hbad hfz hR h1
      exact ⟨⟨vs, rfl, h3⟩, by simpa only [V.all] using h4⟩
    · cases h
  · exact convD_sound S hbad hfz hx h
end Go.Ab
