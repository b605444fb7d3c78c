import Derived.Test.YtahflobpopclpaaAb7
namespace Go.Ab
open Go Go.RowKit
set_option linter.unusedVariables false

/-! ### slices: literals, make, append, len -/
def chunk (sz : Nat) : Nat → List V → List (List V)
  | 0, _ => []
  | n + 1, l => l.take sz :: chunk sz n (l.drop sz)
def rep (n : Nat) (zs : List V) : List V :=
  match n with
  | 0 => []
  | n + 1 => zs ++ rep n zs
theorem chunk_length (sz : Nat) : ∀ (n : Nat) (l : List V), (chunk sz n l).length = n
  | 0, l => rfl
  | n + 1, l => by simp [chunk, chunk_length sz n]
theorem RelRows.chunk {E : Env} {ad : Addr} {sz : Nat} : ∀ (n : Nat) {l : List V} {k : Nat}, l.length = n * sz → RelCells E ad k l → RelRows E ad sz k (chunk sz n l)
  | 0, l, k, _, _ => by simp only [Ab.chunk, RelRows]
  | n + 1, l, k, hl, h => by
    have hlen : sz ≤ l.length := by rw [hl, Nat.succ_mul]; omega
    have htake : ∀ (j : Nat) {l : List V} {k : Nat}, RelCells E ad k l → RelCells E ad k (l.take j) := by
      intro j
      induction j with
      | zero => intro l k _; simp only [List.take_zero, RelCells]
      | succ j ih =>
        intro l k h
        cases l with
        | nil => simp only [List.take_nil, RelCells]
        | cons c cs => simp only [List.take_succ_cons, RelCells] at *; exact ⟨h.1, ih h.2⟩
    simp only [Ab.chunk, RelRows]
    refine ⟨by simp; omega, htake sz h, RelRows.chunk n (by simp [hl, Nat.succ_mul]) (RelCells.drop sz h)⟩
theorem RelL.rep {E : Env} {zs : List V} {vs : List Value} (h : RelL E zs vs) : ∀ n, ∃ us, RelL E (rep n zs) us ∧ us.length = n * vs.length ∧ ∀ j, j < n * vs.length → us[j]? = vs[j % vs.length]?
  | 0 => ⟨[], by simp only [Ab.rep, RelL], by simp, fun j hj => by simp at hj⟩
  | n + 1 => by
    obtain ⟨us, h1, h2, h3⟩ := RelL.rep h n
    refine ⟨vs ++ us, by simp only [Ab.rep]; exact h.append h1, by simp [h2, Nat.succ_mul]; omega, fun j hj => ?_⟩
    rcases Nat.lt_or_ge j vs.length with hlt | hge
    · rw [List.getElem?_append_left hlt, Nat.mod_eq_of_lt hlt]
    · rw [List.getElem?_append_right hge, h3 _ (by rw [Nat.succ_mul] at hj; omega), ← Nat.mod_eq_sub_mod hge]
theorem cells_of_made {z : Array Value} {sz n : Nat} {us : List Value} (hz : z.size = sz) (h2 : us.length = n * sz) (h3 : ∀ j, j < n * sz → us[j]? = z.toList[j % sz]?) : ((Array.range (n * sz)).map (z[· % z.size]!)).toList = us := by
  apply List.ext_getElem?
  intro j
  rcases Nat.lt_or_ge j (n * sz) with hj | hj
  · rw [h3 j hj]
    have hpos : 0 < sz := Nat.pos_of_ne_zero (fun e => by simp [e] at hj)
    have hm : j % sz < z.size := by rw [hz]; exact Nat.mod_lt _ hpos
    simp [hj, hz, Array.getElem!_eq_getD]
    rw [Array.getElem?_eq_getElem hm]; rfl
  · rw [List.getElem?_eq_none (by simp; omega), List.getElem?_eq_none (by omega)]
def litV (P : Program) (h : List AObj) (T n : Nat) (parts : List (Nat × V)) : Option V :=
  match elemT P T with
  | some (E, sz) => match zeroV P E with
    | some zs => if zs.length = sz ∧ n * sz ≤ 16777216 ∧ 0 < n ∧ zs.all (V.one h) then
        (match fillV h ((List.range n).map fun k => (k * sz, sz)) (rep n zs) parts with
        | some cs => if cs.length = n * sz then some (.sl sz (chunk sz n cs)) else none
        | none => none) else none
    | none => none
  | none => none
theorem litV_sound {P : Program} {C : Ctx} {s : St} {m : List Value} {a : Act} {w : World} (S : Sim C s m a w) {T n : Nat} {parts : List (Nat × V)} {vparts : List (Nat × Value)} {y : V} (hl : parts.length = vparts.length)
    (hp : ∀ (k : Nat) i v, parts[k]? = some (i, v) → ∃ u, vparts[k]? = some (i, u) ∧ Rel (env C s.h m w) v u) (hb : litV P s.h T n parts = some y) :
    ∃ u' w', (Instr.buildSlice T n vparts.toArray).run P w = .ok u' w' ∧ Sim C s m a w' ∧ Rel (env C s.h m w') y u' ∧ Up (env C s.h m w) (env C s.h m w') := by
  unfold litV at hb
  split at hb
  case h_2 => cases hb
  rename_i E sz he
  obtain ⟨hu, hsz, hnz⟩ := elemT_spec he
  split at hb
  case h_2 => cases hb
  rename_i zs hz
  split at hb
  case isFalse => cases hb
  rename_i hc
  obtain ⟨hzl, hbig, hpos, hall⟩ := hc
  split at hb
  case h_2 => cases hb
  rename_i cs hf
  split at hb
  case isFalse => cases hb
  rename_i hcl
  simp only [Option.some.injEq] at hb; subst hb
  obtain ⟨z, hzr, hR⟩ := zeroV_sound (E := env C s.h m w) hz
  have hzs := hR.length
  obtain ⟨us, h1, h2, h3⟩ := hR.rep n
  have hzsz : z.cells.size = sz := by simp at hzs; omega
  have hmade := cells_of_made (z := z.cells) (sz := sz) (n := n) hzsz (by simpa [hzsz] using h2) (fun j hj => by have := h3 j (by simpa [hzsz] using hj); simpa [hzsz] using this)
  have h1' : RelL (env C s.h m w) (rep n zs) ((Array.range (n * sz)).map (z.cells[· % z.cells.size]!)).toList := by rw [hmade]; exact h1
  have hone : ∀ v ∈ ((Array.range (n * sz)).map (z.cells[· % z.cells.size]!)).toList, v.oneCell' = true := by
    rw [hmade]
    refine RelL.one S h1 ?_
    have hrep : ∀ n, (rep n zs).all (V.one s.h) = true := fun n => by
      induction n with
      | zero => simp [rep]
      | succ n ih => simp only [rep, List.all_append, hall, ih, Bool.and_self]
    exact hrep n
  obtain ⟨cs', hcs, hout, hout1⟩ := fillV_sound S (place := fun i => some (i * sz, sz)) (fun i x hx => by
    simp only [List.getElem?_map] at hx
    cases hr : (List.range n)[i]? with
    | none => simp [hr] at hx
    | some k =>
      obtain ⟨hlt, hek⟩ := List.getElem?_eq_some_iff.1 hr
      have : i = k := by simpa using hek
      subst this
      simpa [hr] using hx) hl hp h1' hone hf
  have hso : (sizeOf E).run P w = .ok sz w := by rw [← hsz]; exact cellsOf_info (by rw [hsz]; exact hnz) w
  have hnsz : ¬ n * sz = 0 := by
    intro e
    rcases Nat.mul_eq_zero.1 e with e | e <;> omega
  have hbel := below_alloc' w (.cells cs' E)
  refine ⟨.slice (some ⟨w.heap.size, 0, none⟩) n n, w.alloc (.cells cs' E), ?_, S.world hbel, ?_, up_world hbel⟩
  · simp only [Instr.buildSlice, Sem.run_bind, run_underlying hu, Result.andThen_ok, hso]
    rw [if_neg (by omega)]
    simp only [hnsz, if_false, Sem.run_bind, hzr, Result.andThen_ok, Sem.run_pure, hcs]
    simp [newRow, newObj, Sem.run]
  · have S' := S.world hbel
    have L : Env.Le (fun _ => true) (env C s.h m w) (env C s.h m (w.alloc (.cells cs' E))) :=
      ⟨fun b _ h => h, fun b hb' _ => hbel.block b hb', hbel.size, fun i _ v h _ => h, fun i _ h => ⟨h, fun T sz rows fr ho => ⟨T, rows, fr, ho, Nat.le_refl _, fun _ => rfl⟩⟩, fun i _ T sz rows ho => ⟨rows, ho, Nat.le_refl _, fun _ => rfl⟩⟩
    simp only [Rel, chunk_length]
    refine ⟨_, n, rfl, ⟨Nat.le_refl _, ?_⟩, .inr ⟨_, rfl, ?_, ?_, RelRows.chunk n hcl (RelCells.of (hout.le L) (fun j v hj => ?_))⟩⟩
    · have : n * 1 ≤ n * sz := Nat.mul_le_mul_left n (by omega)
      omega
    · rintro (hb | ⟨i, o, v, _, _, h3, h4⟩)
      · exact absurd (S.out _ hb) (by have := S.below.size; simp; omega)
      · have := (S.low i v _ h3 h4).2
        simp at this
    · simp [env, World.size_alloc]
    · rw [add_at]
      simp only [env, World.cell?, alloc_new]
      simpa using hj
end Go.Ab
