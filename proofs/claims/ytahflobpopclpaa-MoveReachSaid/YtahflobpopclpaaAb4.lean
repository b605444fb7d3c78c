import Derived.Test.YtahflobpopclpaaAb3
namespace Go.Ab
open Go Go.RowKit
set_option linter.unusedVariables false

/-- Is a reference to an own row not overtaken by an append? -/
def cur (h : List AObj) : V → Bool
  | .arr i n => match h[i]? with | some (.arr _ _ rows _) => n == rows.length | _ => false
  | .aptr i n _ _ => match h[i]? with | some (.arr _ _ rows _) => n == rows.length | _ => false
  | .arrd i n _ => match h[i]? with | some (.que _ _ rows) => n == rows.length | _ => false
  | .qptr i n _ _ => match h[i]? with | some (.que _ _ rows) => n == rows.length | _ => false
  | _ => true
/-- One cell, and what it holds is known. -/
def V.one (h : List AObj) : V → Bool
  | .agg _ | .tup _ | .undef => false
  | x => cur h x
theorem cur_arr {C : Ctx} {s : St} {m : List Value} {a : Act} {w : World} (S : Sim C s m a w) {i n : Nat} {u : Value} (hr : Rel (env C s.h m w) (.arr i n) u) (hc : cur s.h (.arr i n) = true) :
    ∃ T sz rows fr us, s.h[i]? = some (.arr T sz rows fr) ∧ n = rows.length ∧ m[i]? = some u ∧ w.ownsRow C.w0.heap.size T sz u rows.length us ∧ RelL (env C s.h m w) rows.flatten us ∧ (∀ r ∈ rows, r.length = sz) := by
  simp only [cur] at hc
  split at hc
  · rename_i T sz rows fr ho
    have hn : n = rows.length := by simpa using hc
    simp only [Rel] at hr
    have hm := (hr.2 _ _ _ _ ho).2 hn
    obtain ⟨us, h1, h2, h3⟩ := S.objs i _ u ho hm
    exact ⟨T, sz, rows, fr, us, ho, hn, hm, h1, h2, h3⟩
  · cases hc
theorem owns_shape {w : World} {B : Nat} {T sz n : Nat} {u : Value} {us : List Value} (h : w.ownsRow B T sz u n us) : ∃ A c, u = .slice A n c ∧ n ≤ c ∧ n ≤ 9223372036854775807 ∧ (∀ ad, A = some ad → ∃ g, ad = ⟨g, 0, none⟩) ∧ (0 < n → ∃ g, A = some ⟨g, 0, none⟩) := by
  rcases h.2 with ⟨rfl, rfl⟩ | ⟨g, cap, cr, rfl, _, _, hn, hcap, _⟩
  · exact ⟨none, 0, rfl, Nat.le_refl _, by omega, by simp, by simp⟩
  · exact ⟨_, cap, rfl, hn, by unfold maxLen at hcap; omega, by rintro ad ⟨rfl⟩; exact ⟨g, rfl⟩, fun _ => ⟨g, rfl⟩⟩
theorem cur_aptr {C : Ctx} {s : St} {m : List Value} {a : Act} {w : World} (S : Sim C s m a w) {i n r o : Nat} {u : Value} (hr : Rel (env C s.h m w) (.aptr i n r o) u) (hc : cur s.h (.aptr i n r o) = true) :
    ∃ b k, u = .pointer (some ⟨b, k, none⟩) := by
  simp only [cur] at hc
  split at hc
  · rename_i T sz rows fr ho
    have hn : n = rows.length := by simpa using hc
    simp only [Rel] at hr
    obtain ⟨g, cap, _, rfl⟩ := (hr.2 _ _ _ _ ho).2 hn
    exact ⟨_, _, rfl⟩
  · cases hc
theorem cur_arrd {C : Ctx} {s : St} {m : List Value} {a : Act} {w : World} (S : Sim C s m a w) {i n k : Nat} {u : Value} (hr : Rel (env C s.h m w) (.arrd i n k) u) (hc : cur s.h (.arrd i n k) = true) :
    ∃ T sz rows us A c j, s.h[i]? = some (.que T sz rows) ∧ n = rows.length ∧ m[i]? = some (.slice A (n - j) c) ∧ j ≤ k ∧ k ≤ n ∧ n - j ≤ c ∧ w.ownsRow C.w0.heap.size T sz (.slice A (n - j) c) (n - j) us ∧ RelL (env C s.h m w) (rows.drop j).flatten us ∧ (∀ r ∈ rows, r.length = sz) ∧
      ∃ A', u = .slice A' (n - k) (c - (k - j)) ∧ (c = k - j ∨ ∃ g, A = some ⟨g, 0, none⟩ ∧ A' = some ⟨g, (k - j) * sz, none⟩) := by
  simp only [cur] at hc
  simp only [Rel] at hr
  obtain ⟨T, sz, rows, ho, hle, hr⟩ := hr
  simp only [env] at ho
  rw [ho] at hc
  have hn : n = rows.length := by simpa using hc
  obtain ⟨A, c, j, hm, hj, hk, hnc, A', hu, hA⟩ := hr hn
  obtain ⟨us, j', hj', h1, h2, h3⟩ := S.objs i _ _ ho hm
  have hl : rows.length - j' = n - j := by
    rcases h1.2 with ⟨he, h0⟩ | ⟨g', cap', cr, he, _⟩
    · simp only [Value.slice.injEq] at he; omega
    · simp only [Value.slice.injEq] at he; exact he.2.1.symm
  have hjj : j' = j := by omega
  subst hjj
  exact ⟨T, sz, rows, us, A, c, j', ho, hn, hm, hj, hk, hnc, by rw [← hl, hl]; rw [← hl]; rw [hl] at h1 ⊢; exact h1, h2, h3, A', hu, hA⟩
theorem cur_qptr {C : Ctx} {s : St} {m : List Value} {a : Act} {w : World} (S : Sim C s m a w) {i n r o : Nat} {u : Value} (hr : Rel (env C s.h m w) (.qptr i n r o) u) (hc : cur s.h (.qptr i n r o) = true) :
    ∃ b k, u = .pointer (some ⟨b, k, none⟩) := by
  simp only [cur] at hc
  simp only [Rel] at hr
  obtain ⟨T, sz, rows, ho, hle, hr⟩ := hr
  simp only [env] at ho
  rw [ho] at hc
  obtain ⟨g, cap, j, _, _, _, rfl⟩ := hr (by simpa using hc)
  exact ⟨_, _, rfl⟩
theorem V.one_sound {C : Ctx} {s : St} {m : List Value} {a : Act} {w : World} (S : Sim C s m a w) {x : V} {u : Value} (h : x.one s.h = true) (hr : Rel (env C s.h m w) x u) : u.oneCell' = true := by
  cases x
  case arr i n =>
    obtain ⟨_, _, _, _, _, _, _, _, ho, _⟩ := cur_arr S hr (by simpa [V.one] using h)
    obtain ⟨_, _, rfl, _⟩ := owns_shape ho
    rfl
  case aptr i n r o =>
    obtain ⟨_, _, rfl⟩ := cur_aptr S hr (by simpa [V.one] using h)
    rfl
  case arrd i n k =>
    obtain ⟨_, _, _, _, _, _, _, _, _, _, _, _, _, _, _, _, _, rfl, _⟩ := cur_arrd S hr (by simpa [V.one] using h)
    rfl
  case qptr i n r o =>
    obtain ⟨_, _, rfl⟩ := cur_qptr S hr (by simpa [V.one] using h)
    rfl
  all_goals (simp only [V.one, Rel] at h hr; try contradiction)
  all_goals first
    | (subst hr; rfl)
    | (obtain ⟨_, _, rfl, _⟩ := hr; rfl)
    | (obtain ⟨_, rfl, _⟩ := hr; rfl)
    | (obtain ⟨_, _, rfl⟩ := hr; rfl)

def loadV (P : Program) (h : List AObj) (T : TypeId) (x : V) : Option V :=
  match kindT P T, cellsAt h x with
  | some true, some cs => if sizeT P T ≤ cs.length then some (.agg (cs.take (sizeT P T))) else none
  | some false, some (c :: _) => some c
  | _, _ => none
theorem run_loadAt_agg {P : Program} {T : TypeId} (hk : kindT P T = some true) {w : World} {ad : Addr} {vs : List Value} (hn : vs.length = sizeT P T) (hc : ∀ j v, vs[j]? = some v → w.cell? (ad.add j) = some v) :
    (Instr.loadAt T (.pointer (some ad))).run P w = .ok (.agg vs.toArray) w := by
  simp only [Instr.loadAt, Instr.sureAddr, loadVar, Sem.run_bind, Sem.run_pure, Result.andThen_ok, run_isAgg hk, if_true, run_sizeT hk]
  rw [← hn, run_loadCells_list w ad vs hc]
  rfl
theorem run_loadAt_one {P : Program} {T : TypeId} (hk : kindT P T = some false) {w : World} {ad : Addr} {v : Value} (hc : w.cell? ad = some v) :
    (Instr.loadAt T (.pointer (some ad))).run P w = .ok v w := by
  simp only [Instr.loadAt, Instr.sureAddr, loadVar, Sem.run_bind, Sem.run_pure, Result.andThen_ok, run_isAgg hk]
  simp [hc]
theorem loadV_sound {P : Program} {C : Ctx} {s : St} {m : List Value} {a : Act} {w : World} (S : Sim C s m a w) {T : TypeId} {x y : V} {u : Value} (hx : Rel (env C s.h m w) x u) (hl : loadV P s.h T x = some y) :
    ∃ u', (Instr.loadAt T u).run P w = .ok u' w ∧ Rel (env C s.h m w) y u' := by
  unfold loadV at hl
  split at hl
  · rename_i cs hk hc
    obtain ⟨ad, rfl, hR⟩ := cellsAt_sound S hx hc
    split at hl
    · rename_i hle
      simp only [Option.some.injEq] at hl; subst hl
      obtain ⟨vs, hv, hcell⟩ := RelCells.values hR
      have hlen := hv.length
      refine ⟨_, run_loadAt_agg hk (vs := vs.take (sizeT P T)) (by simp; omega) (fun j v hj => ?_), ?_⟩
      · rw [List.getElem?_take] at hj
        split at hj
        · have := hcell j v hj; simpa only [Nat.zero_add, env] using this
        · cases hj
      · simp only [Rel]
        exact ⟨_, rfl, RelL.take _ hv⟩
    · cases hl
  · rename_i c cs hk hc
    obtain ⟨ad, rfl, hR⟩ := cellsAt_sound S hx hc
    simp only [Option.some.injEq] at hl; subst hl
    simp only [RelCells] at hR
    obtain ⟨⟨u, hu, hr⟩, _⟩ := hR
    refine ⟨u, run_loadAt_one hk ?_, hr⟩
    simpa only [Addr.add, if_true, env] using hu
  · cases hl
def shiftV (h : List AObj) (x : V) (off : Nat) : Option V :=
  match x with
  | .ro cs => if off ≤ cs.length then some (.ro (cs.drop off)) else none
  | .ptr i o => some (.ptr i (o + off))
  | .aptr i n r o => if cur h x then some (.aptr i n r (o + off)) else none
  | .qptr i n r o => if cur h x then some (.qptr i n r (o + off)) else none
  | _ => none
theorem add_add' (ad : Addr) (i j : Nat) : (ad.add i).add j = ad.add (i + j) := by
  unfold Addr.add
  by_cases h1 : i = 0 <;> by_cases h2 : j = 0 <;> simp [h1, h2]
  omega
theorem RelCells.drop {E : Env} : ∀ {cs : List V} {ad : Addr} {k : Nat} (n : Nat), RelCells E ad k cs → RelCells E ad (k + n) (cs.drop n)
  | cs, ad, k, 0, h => by simpa using h
  | [], ad, k, n + 1, h => by simp only [List.drop_nil, RelCells]
  | c :: cs, ad, k, n + 1, h => by
    simp only [RelCells] at h
    have := RelCells.drop n h.2
    simpa [Nat.add_assoc, Nat.add_comm 1 n] using this
theorem RelCells.shift {E : Env} : ∀ {cs : List V} {ad : Addr} {k n : Nat}, RelCells E ad (n + k) cs → RelCells E (ad.add n) k cs
  | [], ad, k, n, _ => by simp only [RelCells]
  | c :: cs, ad, k, n, h => by
    simp only [RelCells] at *
    obtain ⟨⟨u, hu, hr⟩, h2⟩ := h
    exact ⟨⟨u, by rw [add_add']; exact hu, hr⟩, RelCells.shift (by rwa [Nat.add_assoc] at h2)⟩
theorem shiftV_sound {C : Ctx} {s : St} {m : List Value} {a : Act} {w : World} (S : Sim C s m a w) {x y : V} {u : Value} {off : Nat} (hx : Rel (env C s.h m w) x u) (hs : shiftV s.h x off = some y) :
    ∃ ad, u = .pointer (some ad) ∧ Rel (env C s.h m w) y (.pointer (some (ad.add off))) := by
  cases x with
  | ro cs =>
    simp only [shiftV] at hs
    split at hs
    · simp only [Option.some.injEq] at hs; subst hs
      simp only [Rel] at hx ⊢
      obtain ⟨ad, rfl, hb, hlt, hR⟩ := hx
      refine ⟨ad, rfl, ad.add off, rfl, by rwa [add_block], by rwa [add_block], RelCells.shift (k := 0) ?_⟩
      simpa using RelCells.drop off hR
    · cases hs
  | ptr i o =>
    simp only [shiftV, Option.some.injEq] at hs; subst hs
    simp only [Rel] at hx ⊢
    obtain ⟨b, hm, rfl⟩ := hx
    exact ⟨_, rfl, b, hm, by rw [add_at]⟩
  | aptr i n r o =>
    simp only [shiftV] at hs
    split at hs
    case isFalse => cases hs
    rename_i hcur
    simp only [Option.some.injEq] at hs; subst hs
    obtain ⟨b, k, rfl⟩ := cur_aptr S hx hcur
    simp only [Rel] at hx ⊢
    refine ⟨_, rfl, hx.1, fun T sz rows fr ho => ⟨(hx.2 T sz rows fr ho).1, fun hn => ?_⟩⟩
    obtain ⟨g, cap, hm, he⟩ := (hx.2 T sz rows fr ho).2 hn
    refine ⟨g, cap, hm, ?_⟩
    cases he
    rw [add_at, Nat.add_assoc]
  | qptr i n r o =>
    simp only [shiftV] at hs
    split at hs
    case isFalse => cases hs
    rename_i hcur
    simp only [Option.some.injEq] at hs; subst hs
    obtain ⟨b, k, rfl⟩ := cur_qptr S hx hcur
    simp only [Rel] at hx ⊢
    obtain ⟨T, sz, rows, ho, hle, hx⟩ := hx
    refine ⟨_, rfl, T, sz, rows, ho, hle, fun hn => ?_⟩
    obtain ⟨g, cap, j, hm, hj, hrn, he⟩ := hx hn
    refine ⟨g, cap, j, hm, hj, hrn, ?_⟩
    cases he
    rw [add_at, Nat.add_assoc]
  | _ => simp [shiftV] at hs
end Go.Ab
