import Derived.Test.YtahflobpopclpaaAb5
import Derived.Maps.AppendAt
import Derived.Laws.OwnMore
import Derived.Laws.MakeOwn
namespace Go.Ab
open Go Go.RowKit
set_option linter.unusedVariables false

/-- The cells of a value that can be stored. -/
def flat (h : List AObj) (x : V) : Option (List V) :=
  match x with
  | .agg cs => if cs.all (V.one h) then some cs else none
  | x => if V.one h x then some [x] else none
theorem RelL.one {C : Ctx} {s : St} {m : List Value} {a : Act} {w : World} (S : Sim C s m a w) : ∀ {cs : List V} {vs : List Value}, RelL (env C s.h m w) cs vs → cs.all (V.one s.h) = true → ∀ v ∈ vs, v.oneCell' = true
  | [], vs, h, _ => by simp only [RelL] at h; subst h; simp
  | c :: cs, vs, h, ha => by
    simp only [RelL] at h
    obtain ⟨u, us, rfl, h1, h2⟩ := h
    simp only [List.all_cons, Bool.and_eq_true] at ha
    intro v hv
    simp at hv
    rcases hv with rfl | hv
    · exact V.one_sound S ha.1 h1
    · exact RelL.one S h2 ha.2 v hv
theorem oneCell_cells {u : Value} (h : u.oneCell' = true) : u.cells = #[u] := by
  cases u <;> simp_all [Value.cells, Value.oneCell']
theorem flat_sound {C : Ctx} {s : St} {m : List Value} {a : Act} {w : World} (S : Sim C s m a w) {x : V} {u : Value} {cs : List V} (hx : Rel (env C s.h m w) x u) (hf : flat s.h x = some cs) :
    RelL (env C s.h m w) cs u.cells.toList ∧ ∀ v ∈ u.cells.toList, v.oneCell' = true := by
  unfold flat at hf
  split at hf
  · rename_i cs'
    split at hf
    · rename_i ha
      simp only [Option.some.injEq] at hf; subst hf
      simp only [Rel] at hx
      obtain ⟨vs, rfl, hR⟩ := hx
      exact ⟨hR, RelL.one S hR ha⟩
    · cases hf
  · split at hf
    · rename_i ho
      simp only [Option.some.injEq] at hf; subst hf
      have h1 := V.one_sound S ho hx
      rw [oneCell_cells h1]
      refine ⟨?_, by simpa using h1⟩
      simp only [RelL]
      exact ⟨u, [], rfl, hx, rfl⟩
    · cases hf
theorem below_alloc' (w : World) (o : Obj) : Below w.heap.size w (w.alloc o) := (Below.refl _ _).alloc (Nat.le_refl _) o
theorem alloc_new (w : World) (o : Obj) : (w.alloc o).heap[w.heap.size]? = some o := by
  show (w.heap.push o)[w.heap.size]? = some o
  simp only [Array.getElem?_push_size]
theorem size_alloc' (w : World) (o : Obj) : (w.alloc o).heap.size = w.heap.size + 1 := World.size_alloc w o
/-- A variable in memory. -/
theorem box_sim {C : Ctx} {s : St} {m : List Value} {a : Act} {w : World} (S : Sim C s m a w) (T : TypeId) {cs : List V} {vs : Array Value} (hR : RelL (env C s.h m w) cs vs.toList) :
    Sim C ⟨s.t, s.h ++ [.box T cs]⟩ (m ++ [.pointer (some ⟨w.heap.size, 0, none⟩)]) a (w.alloc (.cells vs T)) ∧
      Rel (env C (s.h ++ [.box T cs]) (m ++ [.pointer (some ⟨w.heap.size, 0, none⟩)]) (w.alloc (.cells vs T))) (.ptr s.h.length 0) (.pointer (some ⟨w.heap.size, 0, none⟩)) ∧ Up (env C s.h m w) (env C (s.h ++ [.box T cs]) (m ++ [.pointer (some ⟨w.heap.size, 0, none⟩)]) (w.alloc (.cells vs T))) := by
  obtain ⟨h1, L⟩ := S.add (o := .box T cs) (v := .pointer (some ⟨w.heap.size, 0, none⟩)) (below_alloc' w (.cells vs T)) (fun b hb => by simp only [blk, Option.some.injEq] at hb; subst hb; exact ⟨Nat.le_refl _, by rw [size_alloc']; omega⟩)
    (fun L => ⟨_, vs, rfl, S.below.size, alloc_new _ _, hR.le L⟩)
  refine ⟨h1, ?_, L⟩
  simp only [Rel, env]
  exact ⟨w.heap.size, by rw [← S.len]; simp, rfl⟩
theorem run_box {P : Program} (T : TypeId) (u : Value) (w : World) : (Instr.box T u).run P w = .ok (.pointer (some ⟨w.heap.size, 0, none⟩)) (w.alloc (.cells u.cells T)) := by
  simp [Instr.box, newVar, newRow, newObj, Sem.run]
/-- What a constant says. -/
def ofCell : Value → Option V
  | .bool b => some (.bool b)
  | .int k n => some (.int k n)
  | .string s => some (.str s)
  | .slice none 0 0 => some .nil
  | .pointer none => some .nilptr
  | .nilFunc => some .nilfn
  | .nilIface => some .nilif
  | _ => none
def ofCells : List Value → Option (List V)
  | [] => some []
  | c :: cs => match ofCell c, ofCells cs with
    | some x, some xs => some (x :: xs)
    | _, _ => none
def ofValue (v : Value) : Option V :=
  match v with
  | .agg cs => match ofCells cs.toList with
    | some xs => some (.agg xs)
    | none => none
  | .tuple vs => if vs.size = 0 then some (.tup []) else none
  | v => ofCell v
theorem ofCell_sound {E : Env} {v : Value} {x : V} (h : ofCell v = some x) : Rel E x v := by
  unfold ofCell at h
  split at h <;> simp_all <;> subst h <;> simp only [Rel]
theorem ofCells_sound {E : Env} : ∀ {vs : List Value} {xs : List V}, ofCells vs = some xs → RelL E xs vs
  | [], xs, h => by simp only [ofCells, Option.some.injEq] at h; subst h; simp only [RelL]
  | c :: cs, xs, h => by
    simp only [ofCells] at h
    split at h
    · rename_i x xs' h1 h2
      simp only [Option.some.injEq] at h; subst h
      simp only [RelL]
      exact ⟨c, cs, rfl, ofCell_sound h1, ofCells_sound h2⟩
    · cases h
theorem ofValue_sound {E : Env} {v : Value} {x : V} (h : ofValue v = some x) : Rel E x v := by
  unfold ofValue at h
  split at h
  · rename_i cs
    split at h
    · rename_i xs hx
      simp only [Option.some.injEq] at h; subst h
      simp only [Rel]
      exact ⟨cs, rfl, ofCells_sound hx⟩
    · cases h
  · rename_i vs
    split at h
    · rename_i h0
      simp only [Option.some.injEq] at h; subst h
      simp only [Rel, RelL]
      exact ⟨vs, rfl, by simpa using h0⟩
    · cases h
  · exact ofCell_sound h
def zeroV (P : Program) (T : TypeId) : Option (List V) :=
  match P.info? T with
  | some i => match i.zero with
    | some z => match ofValue z with
      | some (.agg cs) => some cs
      | some (.tup _) => none
      | some x => some [x]
      | none => none
    | none => none
  | none => none
theorem ofCell_cells {v : Value} {x : V} (h : ofCell v = some x) : v.cells = #[v] := by
  unfold ofCell at h
  split at h <;> simp_all [Value.cells]
theorem zeroV_sound {P : Program} {E : Env} {T : TypeId} {cs : List V} (h : zeroV P T = some cs) : ∃ z, (∀ w, (zeroValue T).run P w = .ok z w) ∧ RelL E cs z.cells.toList := by
  unfold zeroV at h
  split at h
  · rename_i i hi
    split at h
    · rename_i z hz
      refine ⟨z, fun w => by simp [zeroValue, typeInfo, hi, hz], ?_⟩
      split at h
      · rename_i xs hx
        simp only [Option.some.injEq] at h; subst h
        have := ofValue_sound (E := E) hx
        simp only [Rel] at this
        obtain ⟨vs, rfl, hR⟩ := this
        exact hR
      · cases h
      · rename_i x hx ht hx'
        simp only [Option.some.injEq] at h; subst h
        have hr := ofValue_sound (E := E) hx'
        have hc : z.cells = #[z] := by
          unfold ofValue at hx'
          split at hx'
          · split at hx'
            · simp only [Option.some.injEq] at hx'; exact absurd hx'.symm (hx _)
            · cases hx'
          · split at hx'
            · simp only [Option.some.injEq] at hx'; exact absurd hx'.symm (ht _)
            · cases hx'
          · exact ofCell_cells hx'
        rw [hc]
        simp only [RelL]
        exact ⟨z, [], rfl, hr, rfl⟩
      · cases h
    · cases h
  · cases h
theorem alloc_op_sound {P : Program} {C : Ctx} {s : St} {m : List Value} {a : Act} {w : World} (S : Sim C s m a w) {T : TypeId} {cs : List V} (h : zeroV P T = some cs) :
    ∃ u m' w', (Instr.alloc T true (.tuple #[])).run P w = .ok u w' ∧ Sim C ⟨s.t, s.h ++ [.box T cs]⟩ m' a w' ∧ Rel (env C (s.h ++ [.box T cs]) m' w') (.ptr s.h.length 0) u ∧ Up (env C s.h m w) (env C (s.h ++ [.box T cs]) m' w') := by
  obtain ⟨z, hz, hR⟩ := zeroV_sound (E := env C s.h m w) h
  obtain ⟨h1, h2, h3⟩ := box_sim S T hR
  refine ⟨_, _, _, ?_, h1, h2, h3⟩
  simp [Instr.alloc, hz, newVar, newRow, newObj, Sem.run]
/-! ### store -/
def splice (l : List V) (off : Nat) (xs : List V) : List V := l.take off ++ xs ++ l.drop (off + xs.length)
def storeH (P : Program) (h : List AObj) (T : TypeId) (p v : V) : Option (List AObj) :=
  match flat h v with
  | none => none
  | some xs =>
    if kindT P T = none ∨ xs.length ≠ sizeT P T then none else
    match p with
    | .ptr i off => match h[i]? with
      | some (.box T0 cs) => if off + xs.length ≤ cs.length then some (h.set i (.box T0 (splice cs off xs))) else none
      | _ => none
    | .aptr i n r off => match h[i]? with
      | some (.arr T0 sz rows false) => if n = rows.length then
          (match rows[r]? with
          | some row => if off + xs.length ≤ row.length then some (h.set i (.arr T0 sz (rows.set r (splice row off xs)) false)) else none
          | none => none) else none
      | _ => none
    | _ => none
theorem grownBy_setRow {w : World} {g : Nat} (cs : Array Value) : w.grownBy (w.setRow g cs) (some g) :=
  ⟨by simp, by simp, by simp, by simp, fun k hk hne => setRow_other w g k cs (fun e => hne (by rw [e]))⟩
theorem run_storeAt {P : Program} {T : TypeId} (hk : kindT P T ≠ none) {w : World} {g o : Nat} {t : TypeId} {cr : Array Value} {u : Value} (hn : u.cells.toList.length = sizeT P T) (hg : w.heap[g]? = some (.cells cr t (0, 0)))
    (hle : o + u.cells.toList.length ≤ cr.size) (h1 : ∀ v ∈ u.cells.toList, v.oneCell' = true) :
    (Instr.storeAt T (.pointer (some ⟨g, o, none⟩)) u).run P w = .ok () (w.setRow g (cr.toList.take o ++ u.cells.toList ++ cr.toList.drop (o + u.cells.toList.length)).toArray) := by
  cases hkk : kindT P T with
  | none => exact absurd hkk hk
  | some b =>
    have hs : u.cells.size = sizeT P T := by rw [← hn]; simp
    simp only [Instr.storeAt, Instr.sureAddr, Sem.run_bind, Sem.run_pure, Result.andThen_ok, storeVar, run_sizeT hkk, hs, ne_eq, not_true, if_false]
    have := run_storeCells_at (P := P) g o t u.cells.toList 0 cr w hg (by simpa using hle) h1
    simpa using this
theorem RelL.splice {E : Env} {cs xs : List V} {vs us : List Value} {off : Nat} (h : RelL E cs vs) (k : RelL E xs us) : RelL E (splice cs off xs) (vs.take off ++ us ++ vs.drop (off + us.length)) := by
  unfold Ab.splice
  rw [k.length]
  exact ((h.take off).append k).append (h.drop _)
theorem flatten_length : ∀ (rows : List (List V)) (sz : Nat), (∀ x ∈ rows, x.length = sz) → rows.flatten.length = rows.length * sz
  | [], sz, _ => by simp
  | r :: rs, sz, h => by
    simp only [List.flatten_cons, List.length_append, List.length_cons, flatten_length rs sz (fun x hx => h x (by simp [hx])), h r (by simp), Nat.succ_mul]
    omega
theorem flatten_splice : ∀ (rows : List (List V)) (sz r off : Nat) (row xs : List V), (∀ x ∈ rows, x.length = sz) → rows[r]? = some row → off + xs.length ≤ row.length →
    (rows.set r (splice row off xs)).flatten = splice rows.flatten (r * sz + off) xs
  | [], sz, r, off, row, xs, _, h, _ => by simp at h
  | y :: rows, sz, r, off, row, xs, hs, h, hle => by
    have hy : y.length = sz := hs y (by simp)
    cases r with
    | zero =>
      simp at h; subst h
      simp only [List.set_cons_zero, List.flatten_cons, Nat.zero_mul, Nat.zero_add, splice]
      rw [List.take_append_of_le_length (by omega), List.drop_append_of_le_length (by omega)]
      simp only [List.append_assoc]
    | succ r =>
      simp at h
      have ih := flatten_splice rows sz r off row xs (fun x hx => hs x (by simp [hx])) h hle
      simp only [List.set_cons_succ, List.flatten_cons]
      rw [ih]
      simp only [splice]
      rw [Nat.succ_mul, show r * sz + sz + off = y.length + (r * sz + off) by omega, List.take_length_add_append,
        show y.length + (r * sz + off) + xs.length = y.length + (r * sz + off + xs.length) by omega, List.drop_length_add_append]
      simp only [List.append_assoc]
theorem splice_length {l xs : List V} {off : Nat} (h : off + xs.length ≤ l.length) : (splice l off xs).length = l.length := by
  simp only [splice, List.length_append, List.length_take, List.length_drop]; omega
theorem store_sound {P : Program} {C : Ctx} {s : St} {m : List Value} {a : Act} {w : World} (S : Sim C s m a w) {T : TypeId} {p v : V} {up uv : Value} {h' : List AObj} (hp : Rel (env C s.h m w) p up) (hv : Rel (env C s.h m w) v uv)
    (hs : storeH P s.h T p v = some h') : ∃ m' w', (Instr.storeAt T up uv).run P w = .ok () w' ∧ Sim C ⟨s.t, h'⟩ m' a w' ∧ Up (env C s.h m w) (env C h' m' w') := by
  unfold storeH at hs
  split at hs
  · cases hs
  rename_i xs hf
  obtain ⟨hR, hone⟩ := flat_sound S hv hf
  have hlen := hR.length
  have hlen' : xs.length = uv.cells.size := by simpa using hlen
  split at hs
  · cases hs
  rename_i hcond
  have hk : kindT P T ≠ none := fun e => hcond (.inl e)
  have hsz : xs.length = sizeT P T := Classical.byContradiction fun e => hcond (.inr e)
  split at hs
  · rename_i i off
    split at hs
    · rename_i T0 cs ho
      split at hs
      · rename_i hle
        simp only [Option.some.injEq] at hs; subst hs
        simp only [Rel] at hp
        obtain ⟨b, hm, rfl⟩ := hp
        obtain ⟨b', vs, he, hb, hh, hRc⟩ := S.objs i _ _ ho hm
        cases he
        simp only [env] at hh
        have hl2 := hRc.length
        have hlv : vs.toList.length = vs.size := by simp
        have hrun := run_storeAt (P := P) (u := uv) hk (by omega) hh (o := off) (by omega) hone
        obtain ⟨h1, L⟩ := S.turn (o' := .box T0 (splice cs off xs)) (v' := .pointer (some ⟨b, 0, none⟩)) ho hm rfl (.inl ⟨T0, cs, _, rfl, rfl, rfl⟩) (show w.grownBy (w.setRow b (vs.toList.take off ++ uv.cells.toList ++ vs.toList.drop (off + uv.cells.toList.length)).toArray) (some b) from grownBy_setRow _) (.inl rfl)
          (fun L => ⟨b, _, rfl, hb, setRow_heap w b vs _ T0 (0, 0) hh, by
            have := (RelL.splice (off := off) (hRc.le L) (hR.le L))
            simpa using this⟩)
        exact ⟨_, _, hrun, h1, L⟩
      · cases hs
    · cases hs
  · rename_i i n r off
    split at hs
    · rename_i T0 sz rows ho
      split at hs
      · rename_i hn
        split at hs
        · rename_i row hr
          split at hs
          · rename_i hle
            simp only [Option.some.injEq] at hs; subst hs
            simp only [Rel] at hp
            obtain ⟨g, cap, hm, rfl⟩ := (hp.2 _ _ _ _ ho).2 hn
            simp only [env] at hm
            obtain ⟨us, ⟨h0, h1⟩, hRc, hrows⟩ := S.objs i _ _ ho hm
            rcases h1 with ⟨he, _⟩ | ⟨g', cap', cr, he, hg, hh, hnc, hcap, hcur, htake⟩
            · cases he
            cases he
            simp only [env] at hh
            have hrl : row.length = sz := hrows row (List.mem_of_getElem? hr)
            have hlt : r < rows.length := (List.getElem?_eq_some_iff.1 hr).1
            have hpos : r * sz + sz ≤ rows.length * sz := by rw [← Nat.succ_mul]; exact Nat.mul_le_mul_right _ hlt
            have hcap' : rows.length * sz ≤ cap * sz := Nat.mul_le_mul_right _ hnc
            have hrun := run_storeAt (P := P) (u := uv) hk (by omega) hh (o := r * sz + off) (by omega) hone
            have hus : us.length = rows.length * sz := h0
            obtain ⟨h1, L⟩ := S.turn (o' := .arr T0 sz (rows.set r (splice row off xs)) false) (v' := .slice (some ⟨g, 0, none⟩) rows.length cap) ho hm rfl (.inr (.inl ⟨T0, sz, rows, _, false, false, rfl, rfl, by simp, fun _ => rfl⟩))
              (show w.grownBy (w.setRow g (cr.toList.take (r * sz + off) ++ uv.cells.toList ++ cr.toList.drop (r * sz + off + uv.cells.toList.length)).toArray) (some g) from grownBy_setRow _) (.inl rfl)
              (fun L => ⟨us.take (r * sz + off) ++ uv.cells.toList ++ us.drop (r * sz + off + uv.cells.toList.length), ⟨by
                  simp only [List.length_append, List.length_take, List.length_drop, List.length_set, hus]; omega,
                .inr ⟨g, cap, _, by simp, hg, setRow_heap w g cr _ T0 (0, 0) hh, by simpa using hnc, hcap, by
                  simp only [List.size_toArray, List.length_append, List.length_take, List.length_drop, Array.length_toList, hcur]; omega, by
                  rw [← htake]
                  simp only [List.length_set]
                  have e1 : (cr.toList.take (r * sz + off)).length = r * sz + off := by simp; omega
                  have e2 : (cr.toList.take (r * sz + off) ++ uv.cells.toList).length = r * sz + off + uv.cells.toList.length := by rw [List.length_append, e1]
                  rw [List.take_append, List.take_of_length_le (by rw [e2]; omega), e2, List.take_take, Nat.min_eq_left (by omega), List.drop_take]⟩⟩, by
                rw [flatten_splice rows sz r off row xs hrows hr hle]
                exact RelL.splice (hRc.le L) (hR.le L), fun x hx => by
                  rcases List.mem_or_eq_of_mem_set hx with hx | rfl
                  · exact hrows x hx
                  · rw [splice_length hle, hrl]⟩)
            exact ⟨_, _, hrun, h1, L⟩
          · cases hs
        · cases hs
      · cases hs
    · cases hs
  · cases hs
end Go.Ab
