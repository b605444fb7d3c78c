import Derived.Test.YtahflobpopclpaaAb29
namespace Go.Ab
open Go Go.RowKit
set_option linter.unusedVariables false
/-! ### results that lead to rows of rows -/
def optL (f : V → Option V) : List V → Option (List V)
  | [] => some []
  | c :: cs => match f c with
    | some x => match optL f cs with
      | some xs => some (x :: xs)
      | none => none
    | none => none
def optR (f : V → Option V) : List (List V) → Option (List (List V))
  | [] => some []
  | r :: rs => match optL f r with
    | some x => match optR f rs with
      | some xs => some (x :: xs)
      | none => none
    | none => none
/-- As data, so many levels down. -/
def convF (h : List AObj) : Nat → V → Option V
  | 0, x => if x.all (fun _ => false) = true then some x else none
  | k + 1, .arr i n => match h[i]? with
    | some (.arr _ sz rows _) => if n = rows.length then (match optR (convF h k) rows with
      | some rows' => some (.sl sz rows')
      | none => none) else none
    | _ => none
  | k + 1, .agg cs => match optL (convF h k) cs with
    | some xs => some (.agg xs)
    | none => none
  | k + 1, .tup cs => match optL (convF h k) cs with
    | some xs => some (.tup xs)
    | none => none
  | _ + 1, x => if x.all (fun _ => false) = true then some x else none
theorem optL_length {f : V → Option V} : ∀ {xs ys : List V}, optL f xs = some ys → ys.length = xs.length
  | [], ys, h => by simp only [optL, Option.some.injEq] at h; subst h; rfl
  | c :: cs, ys, h => by
    simp only [optL] at h
    split at h
    · split at h
      · rename_i xs hx
        simp only [Option.some.injEq] at h; subst h
        simp [optL_length hx]
      · cases h
    · cases h
theorem optL_rel {E E' : Env} {f : V → Option V} (hf : ∀ x d u, Rel E x u → f x = some d → Rel E' d u ∧ d.all (fun _ => false) = true) : ∀ {xs ys : List V} {us : List Value}, RelL E xs us → optL f xs = some ys → RelL E' ys us ∧ V.allL (fun _ => false) ys = true
  | [], ys, us, hx, h => by
    simp only [optL, Option.some.injEq] at h; subst h
    simp only [RelL] at hx ⊢
    exact ⟨hx, by simp only [V.allL]⟩
  | c :: cs, ys, us, hx, h => by
    simp only [optL] at h
    split at h
    · rename_i x h1
      split at h
      · rename_i xs h2
        simp only [Option.some.injEq] at h; subst h
        simp only [RelL] at hx
        obtain ⟨u, us', rfl, hu, hus⟩ := hx
        obtain ⟨h3, h4⟩ := hf _ _ _ hu h1
        obtain ⟨h5, h6⟩ := optL_rel hf hus h2
        exact ⟨by simp only [RelL]; exact ⟨u, us', rfl, h3, h5⟩, by simp only [V.allL, h4, h6, Bool.and_self]⟩
      · cases h
    · cases h
theorem optR_rel {E E' : Env} {f : V → Option V} (hf : ∀ x d u, Rel E x u → f x = some d → Rel E' d u ∧ d.all (fun _ => false) = true) : ∀ {xs ys : List (List V)} {us : List Value}, RelL E xs.flatten us → optR f xs = some ys →
    RelL E' ys.flatten us ∧ V.allL (fun _ => false) ys.flatten = true ∧ ys.length = xs.length ∧ ∀ sz, (∀ r ∈ xs, r.length = sz) → ∀ r ∈ ys, r.length = sz
  | [], ys, us, hx, h => by
    simp only [optR, Option.some.injEq] at h; subst h
    simp only [List.flatten_nil, RelL] at hx ⊢
    exact ⟨hx, by simp only [V.allL], by simp, fun _ _ r hr => by simp at hr⟩
  | r :: rs, ys, us, hx, h => by
    simp only [optR] at h
    split at h
    · rename_i x h1
      split at h
      · rename_i xs h2
        simp only [Option.some.injEq] at h; subst h
        simp only [List.flatten_cons] at hx
        obtain ⟨a, b, rfl, ha, hb⟩ := RelL.split hx
        obtain ⟨h3, h4⟩ := optL_rel hf ha h1
        obtain ⟨h5, h6, h7, h8⟩ := optR_rel hf hb h2
        refine ⟨by simp only [List.flatten_cons]; exact h3.append h5, by simp only [List.flatten_cons, V.allL_append, h4, h6, Bool.and_self], by simp [h7], fun sz hsz y hy => ?_⟩
        rcases List.mem_cons.1 hy with rfl | hy
        · rw [optL_length h1]; exact hsz r (by simp)
        · exact h8 sz (fun z hz => hsz z (by simp [hz])) y hy
      · cases h
    · cases h
theorem convF_sound {C : Ctx} {s : St} {m : List Value} {a : Act} {w : World} (S : Sim C s m a w) {bad : Nat → Prop} (hbad : ∀ b, b < w.heap.size → bad b → (env C s.h m w).bad b)
    (hfz : ∀ (i : Nat) T sz rows fr v b, s.h[i]? = some (.arr T sz rows fr) → m[i]? = some v → blk v = some b → ¬ bad b) : ∀ (k : Nat) (x d : V) (u : Value), Rel (env C s.h m w) x u → convF s.h k x = some d →
    Rel ⟨bad, [], [], w⟩ d u ∧ d.all (fun _ => false) = true := by
  have hle := data_le (E := env C s.h m w) (bad := bad) hbad
  have hlast : ∀ (x d : V) (u : Value), Rel (env C s.h m w) x u → (if x.all (fun _ => false) = true then some x else none) = some d → Rel ⟨bad, [], [], w⟩ d u ∧ d.all (fun _ => false) = true := by
    intro x d u hx h
    split at h
    · rename_i ha
      simp only [Option.some.injEq] at h; subst h
      exact ⟨Rel.mono hle _ _ ha hx, ha⟩
    · cases h
  intro k
  induction k with
  | zero =>
    intro x d u hx h
    exact hlast x d u hx (by simpa only [convF] using h)
  | succ k ih =>
    intro x d u hx h
    cases x with
    | arr i n =>
      simp only [convF] at h
      split at h
      · rename_i T sz rows fr ho
        split at h
        · rename_i hc
          split at h
          · rename_i rows' hr
            simp only [Option.some.injEq] at h; subst h
            obtain ⟨_, _, _, _, us, ho', _, hm, hown, hR, hsz⟩ := cur_arr S hx (by simp [cur, ho, hc])
            rw [ho] at ho'; cases ho'
            obtain ⟨A, c, rfl, hnc, hlim, hA, hpos⟩ := owns_shape hown
            obtain ⟨h3, h4, h5, h6⟩ := optR_rel ih hR hr
            refine ⟨?_, by simp only [V.all, allR_flatten]; exact h4⟩
            simp only [Rel]
            refine ⟨A, c, by rw [h5], ⟨by omega, by omega⟩, ?_⟩
            rcases rows with _ | ⟨r, rs⟩
            · exact .inl (List.eq_nil_of_length_eq_zero (by simpa using h5))
            · obtain ⟨g, rfl⟩ := hpos (by simp)
              refine .inr ⟨_, rfl, hfz i _ _ _ _ _ g ho hm rfl, own_lt' hown rfl, RelRows.chunked (h6 sz hsz) h3 (fun j v hj => ?_)⟩
              have := hown.cells (g := g) rfl j v hj
              simpa using this
          · cases h
        · cases h
      · cases h
    | agg cs =>
      simp only [convF] at h
      split at h
      · rename_i xs h1
        simp only [Option.some.injEq] at h; subst h
        simp only [Rel] at hx ⊢
        obtain ⟨vs, rfl, hR⟩ := hx
        obtain ⟨h3, h4⟩ := optL_rel ih hR h1
        exact ⟨⟨vs, rfl, h3⟩, by simpa only [V.all] using h4⟩
      · cases h
    | tup cs =>
      simp only [convF] at h
      split at h
      · rename_i xs h1
        simp only [Option.some.injEq] at h; subst h
        simp only [Rel] at hx ⊢
        obtain ⟨vs, rfl, hR⟩ := hx
        obtain ⟨h3, h4⟩ := optL_rel ih hR h1
        exact ⟨⟨vs, rfl, h3⟩, by simpa only [V.all] using h4⟩
      · cases h
    | _ => exact hlast _ _ _ hx (by simpa only [convF] using h)
theorem Ret_introU {P : Program} {f : FuncId} {fn : Func} {c : Code} {args : List V} {r : V} (hf : P.funcs[f]? = some fn) (hb : fn.body = some c)
    (hT : T P 0 none c ⟨enter fn args, []⟩ (fun x s => (match x with | .normal | .ret => True | _ => False) ∧ ∃ r0, resV P fn s = some r0 ∧ ∃ k, convF s.h k r0 = some r)) : Ret P f args r := by
  intro bad w cargs hbad hR
  refine (callsIn_wide (n := 0)).1 ?_
  refine callsIn_of_wp_marks hf hb trivial ?_
  have hlen := hR.length
  have hle : Env.Le (fun _ => true) ⟨bad, [], [], w⟩ (env ⟨bad, w, w.heap.size, []⟩ [] [] w) :=
    ⟨fun b _ h => by rcases h with h | ⟨i, o, v, h1, _⟩; exact h; simp at h1, fun _ _ _ => rfl, Nat.le_refl _, fun i _ v h => by simp at h, fun i _ h => by simp at h, fun i _ T sz rows h => by simp at h⟩
  have S0 : Sim ⟨bad, w, w.heap.size, []⟩ ⟨enter fn args, []⟩ [] { tmps := cargs ++ Array.replicate (fn.ntmps - cargs.size) undef, defers := [] } w := by
    refine ⟨Below.refl _ _, hbad, rfl, ?_, Marks.nil (Nat.le_refl _) (Nat.le_refl _), fun i o v h => by simp at h, fun i j v u b _ h => by simp at h, fun i v b h => by simp at h⟩
    simp only [enter, Array.toList_append, Array.toList_replicate]
    have : args.length = cargs.size := by simpa using hlen
    rw [this]
    exact (hR.le hle).append (RelL.undefs _)
  have hw := hT ⟨bad, w, w.heap.size, []⟩ (env ⟨bad, w, w.heap.size, []⟩ [] [] w) [] _ w rfl (LeN.refl _) S0
  refine wpIn_mono hw ?_
  rintro e a' w' ⟨s', m', ⟨hx, r0, hres, kk, hconv⟩, S', L'⟩
  have post : LeavesInM Fence.wide 0 P fn a'.tmps (fun e w' => ∃ v_1, e = .returned v_1 ∧ Rel ⟨bad, [], [], w'⟩ r v_1 ∧ Below w.heap.size w w') a'.defers .returning w' := by
    refine leaves_marks (C := ⟨bad, w, w.heap.size, []⟩) (E0 := env ⟨bad, w, w.heap.size, []⟩ [] [] w) (s := s') (m := m') rfl (Nat.le_refl _) (fun w' S' L' => ?_) S' L'
    obtain ⟨v, hv, hrv⟩ := resV_sound S' hres
    have hd := convF_sound S' (bad := bad) (fun b _ h => .inl h) (fun i T sz rows fr v b ho hm hb' hbd => by
      have := (S'.low i v b hm hb').1
      have h2 := hbad b hbd
      simp only at this
      omega) kk _ _ _ hrv hconv
    exact ⟨v, hv, v, rfl, hd.1, S'.below⟩
  cases e with
  | normal => exact post
  | ret => exact post
  | _ => exact hx.elim
end Go.Ab
