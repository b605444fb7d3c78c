import Derived.Test.YtahflobpopclpaaAb4
namespace Go.Ab
open Go Go.RowKit
set_option linter.unusedVariables false

def foff (P : Program) (T f : Nat) : Option Nat :=
  match P.underlying T with
  | some (.struct fs) => match fs[f]? with
    | some fd => if P.cellsOf fd.type = 0 then none else some fd.offset
    | none => none
  | _ => none
def fieldV (P : Program) (h : List AObj) (T : TypeId) (x : V) (f : Nat) : Option V :=
  match foff P T f with
  | some off => shiftV h x off
  | none => none
theorem cellsOf_info {P : Program} {T : TypeId} (h : P.cellsOf T ≠ 0) (w : World) : (sizeOf T).run P w = .ok (P.cellsOf T) w := by
  unfold Program.cellsOf at *
  cases hi : P.info? T with
  | none => simp [hi] at h
  | some i => simp [sizeOf, typeInfo, hi]
theorem fieldV_sound {P : Program} {C : Ctx} {s : St} {m : List Value} {a : Act} {w : World} (S : Sim C s m a w) {T : TypeId} {f : Nat} {x y : V} {u : Value} (hx : Rel (env C s.h m w) x u) (hl : fieldV P s.h T x f = some y) :
    ∃ u', (Instr.fieldAt T u f).run P w = .ok u' w ∧ Rel (env C s.h m w) y u' := by
  unfold fieldV at hl
  split at hl
  · rename_i off ho
    obtain ⟨ad, rfl, hR⟩ := shiftV_sound S hx hl
    refine ⟨_, ?_, hR⟩
    unfold foff at ho
    split at ho
    · rename_i fs hu
      split at ho
      · rename_i fd hf
        split at ho
        · cases ho
        · rename_i hz
          simp only [Option.some.injEq] at ho; subst ho
          simp only [Instr.fieldAt, Sem.run_bind, run_underlying hu, Result.andThen_ok, hf, Instr.sureAddr, Sem.run_pure, fieldPlace, cellsOf_info hz, if_neg hz]
      · cases ho
    · cases ho
  · cases hl
/-- The element type of a slice type, and its cells. -/
def elemT (P : Program) (T : TypeId) : Option (TypeId × Nat) :=
  match P.underlying T with
  | some (.slice E) => if P.cellsOf E = 0 then none else some (E, P.cellsOf E)
  | _ => none
def arrT (P : Program) (T : TypeId) : Option (Nat × Nat) :=
  match P.underlying T with
  | some (.array n E) => if P.cellsOf E = 0 then none else some (n, P.cellsOf E)
  | _ => none
def indexAddrV (P : Program) (h : List AObj) (T : TypeId) (x i : V) : Option V :=
  match i with
  | .int _ k =>
    if 0 ≤ k then
      match elemT P T with
      | some (_, sz) => match x with
        | .sl sz' rows => match rows[k.toNat]? with
          | some r => if sz' = sz then some (.ro r) else none
          | none => none
        | .arr j n => match h[j]? with
          | some (.arr _ sz' rows _) => if n = rows.length ∧ k.toNat < n ∧ sz' = sz then some (.aptr j n k.toNat 0) else none
          | _ => none
        | .arrd j n d => match h[j]? with
          | some (.que _ sz' rows) => if n = rows.length ∧ d + k.toNat < n ∧ sz' = sz then some (.qptr j n (d + k.toNat) 0) else none
          | _ => none
        | _ => none
      | none => match arrT P T with
        | some (n, sz) => if k.toNat < n then shiftV h x (k.toNat * sz) else none
        | none => none
    else none
  | _ => none
theorem elemT_spec {P : Program} {T E sz : Nat} (h : elemT P T = some (E, sz)) : P.underlying T = some (.slice E) ∧ P.cellsOf E = sz ∧ sz ≠ 0 := by
  unfold elemT at h
  split at h
  · rename_i E' hu
    split at h
    · cases h
    · rename_i hz
      simp only [Option.some.injEq, Prod.mk.injEq] at h
      obtain ⟨rfl, rfl⟩ := h
      exact ⟨hu, rfl, hz⟩
  · cases h
theorem arrT_spec {P : Program} {T n sz : Nat} (h : arrT P T = some (n, sz)) : ∃ E, P.underlying T = some (.array n E) ∧ P.cellsOf E = sz ∧ sz ≠ 0 := by
  unfold arrT at h
  split at h
  · rename_i n' E' hu
    split at h
    · cases h
    · rename_i hz
      simp only [Option.some.injEq, Prod.mk.injEq] at h
      obtain ⟨rfl, rfl⟩ := h
      exact ⟨E', hu, rfl, hz⟩
  · cases h
theorem RelRows.get {E : Env} {ad : Addr} {sz : Nat} : ∀ {rows : List (List V)} {k : Nat} (i : Nat) {r : List V}, RelRows E ad sz k rows → rows[i]? = some r → r.length = sz ∧ RelCells E ad (k + i * sz) r
  | [], _, i, r, _, h => by simp at h
  | x :: xs, k, i, r, hR, h => by
    simp only [RelRows] at hR
    cases i with
    | zero => simp at h; subst h; simpa using ⟨hR.1, hR.2.1⟩
    | succ i =>
      simp at h
      have := RelRows.get i hR.2.2 h
      rw [Nat.succ_mul, show k + (i * sz + sz) = k + sz + i * sz by omega]; exact this
theorem indexAddrV_sound {P : Program} {C : Ctx} {s : St} {m : List Value} {a : Act} {w : World} (S : Sim C s m a w) {T : TypeId} {x i y : V} {u ui : Value} (hx : Rel (env C s.h m w) x u) (hi : Rel (env C s.h m w) i ui) (hl : indexAddrV P s.h T x i = some y) :
    ∃ u', (Instr.indexAt T u ui).run P w = .ok u' w ∧ Rel (env C s.h m w) y u' := by
  cases i with
  | int kk k =>
    simp only [indexAddrV] at hl
    split at hl
    case isFalse => cases hl
    rename_i h0
    simp only [Rel] at hi; subst hi
    split at hl
    · rename_i E sz he
      obtain ⟨hu, hsz, hnz⟩ := elemT_spec he
      have hso : (sizeOf E).run P w = .ok sz w := by rw [← hsz]; exact cellsOf_info (by rw [hsz]; exact hnz) w
      cases x with
      | sl sz' rows =>
        simp only at hl
        split at hl
        · rename_i r hr
          split at hl
          · rename_i hs; subst hs
            simp only [Option.some.injEq] at hl; subst hl
            simp only [Rel] at hx
            obtain ⟨A, c, rfl, hlen, hx⟩ := hx
            have hlt := (List.getElem?_eq_some_iff.1 hr).1
            rcases hx with rfl | ⟨ad, rfl, hb, hab, hR⟩
            · simp at hlt
            · have hg := RelRows.get k.toNat hR hr
              refine ⟨.pointer (some (ad.add (k.toNat * sz'))), ?_, ?_⟩
              · have hk : 0 ≤ k ∧ k < (rows.length : Int) := ⟨h0, by omega⟩
                simp [Instr.indexAt, asIntOf, run_underlying hu, hk, hso]
              · simp only [Rel]
                refine ⟨_, rfl, by rwa [add_block], by rwa [add_block], RelCells.shift ?_⟩
                simpa using hg.2
          · cases hl
        · cases hl
      | arr j n =>
        simp only at hl
        split at hl
        · rename_i T' sz' rows fr ho
          split at hl
          · rename_i hs
            obtain ⟨hn, hk, rfl⟩ := hs
            simp only [Option.some.injEq] at hl; subst hl
            obtain ⟨_, _, _, _, us, ho', _, hm, hown, _, _⟩ := cur_arr S hx (by simp [cur, ho, hn])
            rw [ho] at ho'; cases ho'
            obtain ⟨A, c, rfl, _, _, _, hg⟩ := owns_shape hown
            obtain ⟨g, rfl⟩ := hg (by omega)
            refine ⟨.pointer (some ((⟨g, 0, none⟩ : Addr).add (k.toNat * sz'))), ?_, ?_⟩
            · have hk' : 0 ≤ k ∧ k < (rows.length : Int) := ⟨h0, by omega⟩
              simp [Instr.indexAt, asIntOf, run_underlying hu, hk', hso]
            · simp only [Rel]
              refine ⟨(List.getElem?_eq_some_iff.1 ho).1, fun T1 sz1 rows1 fr1 ho1 => ?_⟩
              simp only [env] at ho1
              rw [ho] at ho1; cases ho1
              exact ⟨by omega, fun _ => ⟨g, c, by rw [← hn] at hm; simpa [env, hn] using hm, by rw [add_at]; simp⟩⟩
          · cases hl
        · cases hl
      | arrd j n d =>
        simp only at hl
        split at hl
        · rename_i T' sz' rows ho
          split at hl
          · rename_i hs
            obtain ⟨hn, hk, rfl⟩ := hs
            simp only [Option.some.injEq] at hl; subst hl
            obtain ⟨T1, sz1, rows1, us, A, c, j0, ho', hn1, hm, hj0, hdn, hnc, hown, _, _, A', rfl, hA⟩ := cur_arrd S hx (by simp [cur, ho, hn])
            rw [ho] at ho'; cases ho'
            rcases hA with hA | ⟨g, rfl, rfl⟩
            · omega
            refine ⟨.pointer (some ((⟨g, (d - j0) * sz', none⟩ : Addr).add (k.toNat * sz'))), ?_, ?_⟩
            · have hk' : 0 ≤ k ∧ k < ((n - d : Nat) : Int) := ⟨h0, by omega⟩
              simp [Instr.indexAt, asIntOf, run_underlying hu, hk', hso]
            · simp only [Rel, env]
              refine ⟨_, _, _, ho, by omega, fun _ => ⟨g, c, j0, hm, by omega, hk, ?_⟩⟩
              rw [add_at, ← Nat.add_mul, show d - j0 + k.toNat = d + k.toNat - j0 by omega]; rfl
          · cases hl
        · cases hl
      | _ => cases hl
    · split at hl
      · rename_i n sz ha
        obtain ⟨E, hu, hsz, hnz⟩ := arrT_spec ha
        have hso : (sizeOf E).run P w = .ok sz w := by rw [← hsz]; exact cellsOf_info (by rw [hsz]; exact hnz) w
        split at hl
        · rename_i hk
          obtain ⟨ad, rfl, hR⟩ := shiftV_sound S hx hl
          refine ⟨_, ?_, hR⟩
          have hk' : 0 ≤ k ∧ k < (n : Int) := ⟨h0, by omega⟩
          simp [Instr.indexAt, asIntOf, run_underlying hu, Instr.sureAddr, hk', hso]
        · cases hl
      · cases hl
  | _ => cases hl
/-- xs[lo:hi] of a slice that is only read. -/
def sliceV (P : Program) (T : TypeId) (x : V) (lo hi : Option V) : Option V :=
  match elemT P T, x with
  | some (_, sz), .sl sz' rows =>
    if sz' = sz then
      match lo, hi with
      | none, some (.int _ k) => if 0 ≤ k ∧ k.toNat ≤ rows.length then some (.sl sz (rows.take k.toNat)) else none
      | some (.int _ j), none => if 0 ≤ j ∧ j.toNat ≤ rows.length then some (.sl sz (rows.drop j.toNat)) else none
      | some (.int _ j), some (.int _ k) => if 0 ≤ j ∧ j ≤ k ∧ k.toNat ≤ rows.length then some (.sl sz ((rows.take k.toNat).drop j.toNat)) else none
      | _, _ => none
    else none
  | _, _ => none
theorem RelRows.take {E : Env} {ad : Addr} {sz : Nat} : ∀ {rows : List (List V)} {k : Nat} (n : Nat), RelRows E ad sz k rows → RelRows E ad sz k (rows.take n)
  | [], k, n, _ => by simp only [List.take_nil, RelRows]
  | r :: rs, k, 0, _ => by simp only [List.take_zero, RelRows]
  | r :: rs, k, n + 1, h => by
    simp only [RelRows, List.take_succ_cons] at *
    exact ⟨h.1, h.2.1, RelRows.take n h.2.2⟩
theorem RelRows.drop {E : Env} {ad : Addr} {sz : Nat} : ∀ {rows : List (List V)} {k : Nat} (n : Nat), RelRows E ad sz k rows → RelRows E ad sz (k + n * sz) (rows.drop n)
  | rows, k, 0, h => by simpa using h
  | [], k, n + 1, _ => by simp only [List.drop_nil, RelRows]
  | r :: rs, k, n + 1, h => by
    simp only [RelRows] at h
    have := RelRows.drop n h.2.2
    rw [Nat.succ_mul, show k + (n * sz + sz) = k + sz + n * sz by omega]
    simpa using this
theorem RelRows.shift {E : Env} {sz : Nat} : ∀ {rows : List (List V)} {ad : Addr} {k n : Nat}, RelRows E ad sz (n + k) rows → RelRows E (ad.add n) sz k rows
  | [], _, _, _, _ => by simp only [RelRows]
  | r :: rs, ad, k, n, h => by
    simp only [RelRows] at *
    exact ⟨h.1, RelCells.shift h.2.1, RelRows.shift (by rw [← Nat.add_assoc]; exact h.2.2)⟩
theorem sliceV_sound {P : Program} {E : Env} {w : World} {T : TypeId} {x y : V} {u : Value} {lo hi : Option V} {ulo uhi : Option Value} (hx : Rel E x u)
    (hlo : ∀ v, lo = some v → ∃ z, ulo = some z ∧ Rel E v z) (hlo' : lo = none → ulo = none) (hhi : ∀ v, hi = some v → ∃ z, uhi = some z ∧ Rel E v z) (hhi' : hi = none → uhi = none) (hl : sliceV P T x lo hi = some y) :
    ∃ u', (Instr.sliceAt T u ulo uhi none).run P w = .ok u' w ∧ Rel E y u' := by
  unfold sliceV at hl
  split at hl
  case h_2 => cases hl
  rename_i EE sz sz' rows he
  obtain ⟨hu, hsz, hnz⟩ := elemT_spec he
  have hso : (sizeOf EE).run P w = .ok sz w := by rw [← hsz]; exact cellsOf_info (by rw [hsz]; exact hnz) w
  split at hl
  case isFalse => cases hl
  rename_i hss; subst hss
  simp only [Rel] at hx
  obtain ⟨A, c, rfl, ⟨hlc, hlm⟩, hx⟩ := hx
  split at hl
  · rename_i kk k
    obtain ⟨z, rfl, hz⟩ := hhi _ rfl
    rw [hlo' rfl]
    simp only [Rel] at hz; subst hz
    split at hl
    case isFalse => cases hl
    rename_i hk
    simp only [Option.some.injEq] at hl; subst hl
    have hb : 0 ≤ k ∧ k ≤ (c : Int) := ⟨hk.1, by omega⟩
    refine ⟨.slice A k.toNat c, ?_, ?_⟩
    · simp [Instr.sliceAt, Instr.slice, Instr.sliceBounds, Instr.sliceBound, run_underlying hu, asIntOf, hb, hso]
      intro _
      cases A <;> simp [Addr.add]
    · simp only [Rel]
      refine ⟨A, c, by simp; omega, ⟨by simp; omega, by simp; omega⟩, ?_⟩
      rcases hx with rfl | ⟨ad, rfl, h1, h2, h3⟩
      · exact .inl (by simp)
      · exact .inr ⟨ad, rfl, h1, h2, RelRows.take _ h3⟩
  · rename_i kk j
    obtain ⟨z, rfl, hz⟩ := hlo _ rfl
    rw [hhi' rfl]
    simp only [Rel] at hz; subst hz
    split at hl
    case isFalse => cases hl
    rename_i hk
    simp only [Option.some.injEq] at hl; subst hl
    have hb : 0 ≤ j ∧ j ≤ (rows.length : Int) := ⟨hk.1, by omega⟩
    refine ⟨.slice (if c = j.toNat then A else A.map (·.add (j.toNat * sz'))) (rows.length - j.toNat) (c - j.toNat), ?_, ?_⟩
    · simp [Instr.sliceAt, Instr.slice, Instr.sliceBounds, Instr.sliceBound, run_underlying hu, asIntOf, hb, hso]
    · simp only [Rel]
      refine ⟨_, _, by rw [List.length_drop], ⟨by simp; omega, by simp; omega⟩, ?_⟩
      rcases hx with rfl | ⟨ad, rfl, h1, h2, h3⟩
      · exact .inl (by simp)
      · by_cases hc : c = j.toNat
        · exact .inl (List.drop_eq_nil_of_le (by omega))
        · refine .inr ⟨ad.add (j.toNat * sz'), by simp [hc], by rwa [add_block], by rwa [add_block], RelRows.shift (k := 0) ?_⟩
          simpa using RelRows.drop j.toNat h3
  · rename_i kk j kk' k
    obtain ⟨z, rfl, hz⟩ := hlo _ rfl
    obtain ⟨z', rfl, hz'⟩ := hhi _ rfl
    simp only [Rel] at hz hz'; subst hz; subst hz'
    split at hl
    case isFalse => cases hl
    rename_i hk
    simp only [Option.some.injEq] at hl; subst hl
    have hb : 0 ≤ k ∧ k ≤ (c : Int) := ⟨by omega, by omega⟩
    have hb' : 0 ≤ j ∧ j ≤ (k.toNat : Int) := ⟨hk.1, by omega⟩
    have hkk : (k.toNat : Int) = k := by omega
    refine ⟨.slice (if c = j.toNat then A else A.map (·.add (j.toNat * sz'))) (k.toNat - j.toNat) (c - j.toNat), ?_, ?_⟩
    · have hb3 : 0 ≤ j ∧ j ≤ k := ⟨hk.1, hk.2.1⟩
      simp [Instr.sliceAt, Instr.slice, Instr.sliceBounds, Instr.sliceBound, run_underlying hu, asIntOf, hb, hso, show ¬ (max k 0 < j) by omega]
      try (intro h; omega)
    · simp only [Rel]
      refine ⟨_, _, by rw [List.length_drop, List.length_take]; congr 1; omega, ⟨by simp; omega, by simp; omega⟩, ?_⟩
      rcases hx with rfl | ⟨ad, rfl, h1, h2, h3⟩
      · exact .inl (by simp)
      · by_cases hc : c = j.toNat
        · exact .inl (List.drop_eq_nil_of_le (by simp; omega))
        · refine .inr ⟨ad.add (j.toNat * sz'), by simp [hc], by rwa [add_block], by rwa [add_block], RelRows.shift (k := 0) ?_⟩
          simpa using RelRows.drop j.toNat (RelRows.take k.toNat h3)
  · cases hl
/-- xs[lo:] of a row that is drawn from its head. -/
def sliceD (P : Program) (h : List AObj) (T : TypeId) (x : V) (lo hi : Option V) : Option V :=
  match x with
  | .arrd i n k => match h[i]?, elemT P T, lo, hi with
    | some (.que _ sz' rows), some (_, sz), some (.int _ j), none => if n = rows.length ∧ sz' = sz ∧ 0 ≤ j ∧ k + j.toNat ≤ n then some (.arrd i n (k + j.toNat)) else none
    | _, _, _, _ => none
  | x => sliceV P T x lo hi
theorem sliceD_sound {P : Program} {C : Ctx} {s : St} {m : List Value} {a : Act} {w : World} (S : Sim C s m a w) {T : TypeId} {x y : V} {u : Value} {lo hi : Option V} {ulo uhi : Option Value} (hx : Rel (env C s.h m w) x u)
    (hlo : ∀ v, lo = some v → ∃ z, ulo = some z ∧ Rel (env C s.h m w) v z) (hlo' : lo = none → ulo = none) (hhi : ∀ v, hi = some v → ∃ z, uhi = some z ∧ Rel (env C s.h m w) v z) (hhi' : hi = none → uhi = none) (hl : sliceD P s.h T x lo hi = some y) :
    ∃ u', (Instr.sliceAt T u ulo uhi none).run P w = .ok u' w ∧ Rel (env C s.h m w) y u' := by
  unfold sliceD at hl
  split at hl
  · rename_i i n k
    split at hl
    · rename_i T' sz' rows E sz kk j ho he
      split at hl
      · rename_i hc
        obtain ⟨hn, rfl, h0, hkn⟩ := hc
        simp only [Option.some.injEq] at hl; subst hl
        obtain ⟨hu, hsz, hnz⟩ := elemT_spec he
        have hso : (sizeOf E).run P w = .ok sz' w := by rw [← hsz]; exact cellsOf_info (by rw [hsz]; exact hnz) w
        obtain ⟨z, rfl, hz⟩ := hlo _ rfl
        rw [hhi' rfl]
        simp only [Rel] at hz; subst hz
        obtain ⟨T1, sz1, rows1, us, A, c, j0, ho', hn1, hm, hj0, hdn, hnc, hown, _, _, A', rfl, hA⟩ := cur_arrd S hx (by simp [cur, ho, hn])
        rw [ho] at ho'; cases ho'
        have hb : 0 ≤ j ∧ j ≤ ((n - k : Nat) : Int) := ⟨h0, by omega⟩
        refine ⟨.slice (if c - (k - j0) = j.toNat then A' else A'.map (·.add (j.toNat * sz'))) (n - k - j.toNat) (c - (k - j0) - j.toNat), ?_, ?_⟩
        · simp [Instr.sliceAt, Instr.slice, Instr.sliceBounds, Instr.sliceBound, run_underlying hu, asIntOf, hb, hso]
        · simp only [Rel, env]
          refine ⟨_, _, _, ho, by omega, fun _ => ⟨A, c, j0, hm, by omega, hkn, hnc, if c - (k - j0) = j.toNat then A' else A'.map (·.add (j.toNat * sz')), ?_, ?_⟩⟩
          · rw [show n - k - j.toNat = n - (k + j.toNat) by omega, show c - (k - j0) - j.toNat = c - (k + j.toNat - j0) by omega]
          · by_cases hcc : c = k + j.toNat - j0
            · exact .inl hcc
            · rcases hA with hA | ⟨g, rfl, rfl⟩
              · omega
              · refine .inr ⟨g, rfl, ?_⟩
                rw [if_neg (by omega)]
                simp only [Option.map_some, add_at, ← Nat.add_mul]
                rw [show k - j0 + j.toNat = k + j.toNat - j0 by omega]
      · cases hl
    · cases hl
  · exact sliceV_sound hx hlo hlo' hhi hhi' hl
end Go.Ab
