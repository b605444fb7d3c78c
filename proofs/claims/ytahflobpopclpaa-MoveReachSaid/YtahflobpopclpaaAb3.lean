import Derived.Test.YtahflobpopclpaaAb2
import Derived.Laws.CopyRow
import Derived.Laws.Rows
import Derived.Laws.Cells
namespace Go.Ab
open Go Go.RowKit
set_option linter.unusedVariables false

def kindT (P : Program) (T : TypeId) : Option Bool :=
  match P.underlying T with
  | some (.struct _) | some (.array _ _) => some true
  | some _ => some false
  | none => none
def sizeT (P : Program) (T : TypeId) : Nat := P.cellsOf T
theorem info_of_kind {P : Program} {T : TypeId} {b : Bool} (h : kindT P T = some b) : ∃ i, P.info? T = some i ∧ sizeT P T = i.size := by
  unfold kindT Program.underlying at h
  cases hi : P.info? T with
  | none => simp [hi] at h
  | some i => exact ⟨i, rfl, by simp [sizeT, Program.cellsOf, hi]⟩
theorem run_sizeT {P : Program} {T : TypeId} {b : Bool} (h : kindT P T = some b) (w : World) : (sizeOf T).run P w = .ok (sizeT P T) w := by
  obtain ⟨i, hi, hs⟩ := info_of_kind h
  simp [sizeOf, typeInfo, hi, hs]
theorem run_isAgg {P : Program} {T : TypeId} {b : Bool} (h : kindT P T = some b) (w : World) : (isAgg T).run P w = .ok b w := by
  unfold kindT at h
  cases hu : P.underlying T with
  | none => simp [hu] at h
  | some d =>
    unfold isAgg
    simp only [hu] at h
    cases d <;> simp_all [run_underlying]
theorem RelCells.values {E : Env} : ∀ {cs : List V} {ad : Addr} {k : Nat}, RelCells E ad k cs → ∃ vs, RelL E cs vs ∧ ∀ j v, vs[j]? = some v → E.w.cell? (ad.add (k + j)) = some v
  | [], ad, k, _ => ⟨[], by simp [RelL], by simp⟩
  | c :: cs, ad, k, h => by
    simp only [RelCells] at h
    obtain ⟨⟨u, hu, hr⟩, h2⟩ := h
    obtain ⟨vs, hv, hc⟩ := RelCells.values h2
    refine ⟨u :: vs, by simp only [RelL]; exact ⟨u, vs, rfl, hr, hv⟩, fun j v hj => ?_⟩
    cases j with
    | zero => simp at hj; subst hj; simpa using hu
    | succ j => simp at hj; have := hc j v hj; rwa [Nat.add_assoc, Nat.add_comm 1 j] at this
theorem RelCells.of {E : Env} : ∀ {cs : List V} {vs : List Value} {ad : Addr} {k : Nat}, RelL E cs vs → (∀ j v, vs[j]? = some v → E.w.cell? (ad.add (k + j)) = some v) → RelCells E ad k cs
  | [], _, _, _, _, _ => by simp only [RelCells]
  | c :: cs, vs, ad, k, h, hc => by
    simp only [RelL] at h
    obtain ⟨u, us, rfl, h1, h2⟩ := h
    simp only [RelCells]
    exact ⟨⟨u, by simpa using hc 0 u rfl, h1⟩, RelCells.of h2 (fun j v hj => by have := hc (j + 1) v (by simpa using hj); rwa [← Nat.add_assoc, Nat.add_right_comm] at this)⟩
theorem RelL.take {E : Env} : ∀ {xs : List V} {vs : List Value} (k : Nat), RelL E xs vs → RelL E (xs.take k) (vs.take k)
  | [], vs, k, h => by simp only [RelL] at h; subst h; simp [RelL]
  | c :: cs, vs, k, h => by
    simp only [RelL] at h
    obtain ⟨u, us, rfl, h1, h2⟩ := h
    cases k with
    | zero => simp [RelL]
    | succ k => simp only [List.take_succ_cons, RelL]; exact ⟨u, _, rfl, h1, RelL.take k h2⟩
theorem RelL.drop {E : Env} : ∀ {xs : List V} {vs : List Value} (k : Nat), RelL E xs vs → RelL E (xs.drop k) (vs.drop k)
  | [], vs, k, h => by simp only [RelL] at h; subst h; simp [RelL]
  | c :: cs, vs, k, h => by
    cases k with
    | zero => simpa using h
    | succ k =>
      simp only [RelL] at h
      obtain ⟨u, us, rfl, h1, h2⟩ := h
      simpa using RelL.drop k h2

/-- The cells behind a pointer. -/
def cellsAt (h : List AObj) : V → Option (List V)
  | .ro cs => some cs
  | .ptr i off => match h[i]? with
    | some (.box _ cs) => if off ≤ cs.length then some (cs.drop off) else none
    | _ => none
  | .aptr i n r off => match h[i]? with
    | some (.arr _ sz rows _) => if n = rows.length then (match rows[r]? with
      | some row => if off ≤ row.length then some (row.drop off) else none
      | none => none) else none
    | _ => none
  | .qptr i n r off => match h[i]? with
    | some (.que _ sz rows) => if n = rows.length then (match rows[r]? with
      | some row => if off ≤ row.length then some (row.drop off) else none
      | none => none) else none
    | _ => none
  | _ => none
theorem add_add (ad : Addr) (i j : Nat) (h : ad.spot = none) : (ad.add i).add j = ad.add (i + j) := by
  unfold Addr.add
  split <;> split <;> simp_all <;> omega
theorem add_at (b o k : Nat) : (⟨b, o, none⟩ : Addr).add k = ⟨b, o + k, none⟩ := by unfold Addr.add; split <;> simp_all
theorem flatten_at {α : Type} : ∀ (rows : List (List α)) (sz r : Nat) (row : List α), (∀ x ∈ rows, x.length = sz) → rows[r]? = some row → ∀ j x, row[j]? = some x → rows.flatten[r * sz + j]? = some x
  | [], sz, r, row, _, h, _, _, _ => by simp at h
  | y :: rows, sz, r, row, hs, h, j, x, hj => by
    have hy : y.length = sz := hs y (by simp)
    cases r with
    | zero =>
      simp at h; subst h
      have hlt := (List.getElem?_eq_some_iff.1 hj).1
      simp only [List.flatten_cons, Nat.zero_mul, Nat.zero_add]
      rw [List.getElem?_append_left hlt]; exact hj
    | succ r =>
      simp at h
      have ih := flatten_at rows sz r row (fun x hx => hs x (by simp [hx])) h j x hj
      simp only [List.flatten_cons]
      rw [List.getElem?_append_right (by rw [hy, Nat.succ_mul]; omega), hy, Nat.succ_mul]
      rw [show r * sz + sz + j - sz = r * sz + j by omega]; exact ih
theorem own_cells {E : Env} {w : World} (hw : E.w = w) {B g T sz cap : Nat} {rows : List (List V)} {us : List Value} {row : List V} {r off n : Nat} (hn : n = rows.length) (ho : w.ownsRow B T sz (.slice (some ⟨g, 0, none⟩) n cap) rows.length us) (hR : RelL E rows.flatten us)
    (hsz : ∀ r ∈ rows, r.length = sz) (hr : rows[r]? = some row) (hle : off ≤ row.length) : RelCells E ⟨g, r * sz + off, none⟩ 0 (row.drop off) := by
  subst hn
  obtain ⟨h0, h1⟩ := ho
  rcases h1 with ⟨he, _⟩ | ⟨g', cap', cur, he, hg, hh, hn', hcap, hcur, htake⟩
  · cases he
  · cases he
    have key : ∀ j x, row[j]? = some x → ∃ u, w.cell? ⟨g, r * sz + j, none⟩ = some u ∧ Rel E x u := fun j x hj => by
      obtain ⟨u, hu, hrel⟩ := RelL.get (r * sz + j) hR (flatten_at rows sz r row hsz hr j x hj)
      refine ⟨u, ?_, hrel⟩
      simp only [World.cell?, hh]
      rw [← htake] at hu
      have := List.getElem?_take (l := cur.toList) (i := rows.length * sz) (j := r * sz + j)
      rw [this] at hu
      split at hu
      · simpa using hu
      · cases hu
    have gen : ∀ (l : List V) (k : Nat), (∀ j x, l[j]? = some x → row[k + j]? = some x) → RelCells E ⟨g, r * sz + off, none⟩ (k - off) l ∨ k < off := fun l => by
      induction l with
      | nil => intro k _; exact .inl (by simp only [RelCells])
      | cons c l ih =>
        intro k hk
        rcases Nat.lt_or_ge k off with hlt | hge
        · exact .inr hlt
        · refine .inl ?_
          simp only [RelCells]
          obtain ⟨u, hu, hrel⟩ := key k c (by simpa using hk 0 c rfl)
          refine ⟨⟨u, ?_, hrel⟩, ?_⟩
          · rw [hw, add_at, show r * sz + off + (k - off) = r * sz + k by omega]; exact hu
          · rcases ih (k + 1) (fun j x hj => by have := hk (j + 1) x (by simpa using hj); rwa [← Nat.add_assoc, Nat.add_right_comm] at this) with h | h
            · rwa [show k + 1 - off = k - off + 1 by omega] at h
            · omega
    rcases gen (row.drop off) off (fun j x hj => by simpa using hj) with h | h
    · simpa using h
    · omega
theorem cellsAt_sound {C : Ctx} {s : St} {m : List Value} {a : Act} {w : World} (S : Sim C s m a w) {x : V} {u : Value} {cs : List V} (hx : Rel (env C s.h m w) x u) (hc : cellsAt s.h x = some cs) :
    ∃ ad, u = .pointer (some ad) ∧ RelCells (env C s.h m w) ad 0 cs := by
  cases x with
  | ro cs' =>
    simp only [cellsAt, Option.some.injEq] at hc; subst hc
    simp only [Rel] at hx
    obtain ⟨ad, rfl, _, _, h⟩ := hx
    exact ⟨ad, rfl, h⟩
  | ptr i off =>
    simp only [cellsAt] at hc
    cases ho : s.h[i]? with
    | none => simp [ho] at hc
    | some o =>
      cases o with
      | box T cs0 =>
        simp only [ho] at hc
        split at hc
        · rename_i hle
          simp only [Option.some.injEq] at hc; subst hc
          simp only [Rel] at hx
          obtain ⟨b, hm, rfl⟩ := hx
          obtain ⟨b', vs, he, _, hh, hR⟩ := S.objs i _ _ ho hm
          cases he
          refine ⟨_, rfl, RelCells.of (RelL.drop off hR) (fun j v hj => ?_)⟩
          rw [add_at]
          simp only [env] at hh ⊢
          simp only [World.cell?, hh]
          simp at hj ⊢
          exact hj
        · cases hc
      | _ => simp [ho] at hc
  | aptr i n r off =>
    simp only [cellsAt] at hc
    cases ho : s.h[i]? with
    | none => simp [ho] at hc
    | some o =>
      cases o with
      | arr T sz rows fr =>
        simp only [ho] at hc
        split at hc
        · rename_i hn
          cases hr : rows[r]? with
          | none => simp [hr] at hc
          | some row =>
            simp only [hr] at hc
            split at hc
            · rename_i hle
              simp only [Option.some.injEq] at hc; subst hc
              simp only [Rel] at hx
              obtain ⟨_, hx⟩ := hx
              obtain ⟨g, cap, hm, rfl⟩ := (hx T sz rows fr ho).2 hn
              obtain ⟨us, hown, hR, hsz⟩ := S.objs i _ _ ho hm
              exact ⟨_, rfl, own_cells rfl hn hown hR hsz hr hle⟩
            · cases hc
        · cases hc
      | _ => simp [ho] at hc
  | qptr i n r off =>
    simp only [cellsAt] at hc
    simp only [Rel] at hx
    obtain ⟨T, sz, rows, ho, hle0, hx⟩ := hx
    simp only [env] at ho
    simp only [ho] at hc
    split at hc
    · rename_i hn
      cases hr : rows[r]? with
      | none => simp [hr] at hc
      | some row =>
        simp only [hr] at hc
        split at hc
        · rename_i hle
          simp only [Option.some.injEq] at hc; subst hc
          obtain ⟨g, cap, j, hm, hj, hrn, rfl⟩ := hx hn
          obtain ⟨us, j', hj', hown, hR, hsz⟩ := S.objs i _ _ ho hm
          have hl : rows.length - j' = n - j := by
            rcases hown.2 with ⟨he, _⟩ | ⟨g', cap', cur, he, _⟩
            · cases he
            · simp only [Value.slice.injEq] at he; exact he.2.1.symm
          have hjj : j' = j := by omega
          subst hjj
          refine ⟨_, rfl, own_cells rfl (rows := rows.drop j') (n := n - j') (by rw [List.length_drop]; omega) (by rw [List.length_drop]; exact hown) hR (fun r hr => hsz r (List.mem_of_mem_drop hr)) ?_ hle⟩
          rw [List.getElem?_drop, show j' + (r - j') = r by omega]; exact hr
        · cases hc
    · cases hc
  | _ => simp [cellsAt] at hc
end Go.Ab
