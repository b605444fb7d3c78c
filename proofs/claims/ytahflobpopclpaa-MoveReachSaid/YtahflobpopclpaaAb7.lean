import Derived.Test.YtahflobpopclpaaAb6
import Derived.Laws.Tables
import Derived.Deep.OwnRows
namespace Go.Ab
open Go Go.RowKit
set_option linter.unusedVariables false

/-! ### composite values -/
def placesT (P : Program) (T : TypeId) : Option (List (Nat × Nat)) :=
  match P.underlying T with
  | some (.struct fs) => fs.toList.mapM (fun f => (P.info? f.type).map fun i => (f.offset, i.size))
  | some (.array n e) => (P.info? e).map fun i => (List.range n).map fun k => (k * i.size, i.size)
  | _ => none
def fillV (h : List AObj) (pl : List (Nat × Nat)) (cells : List V) : List (Nat × V) → Option (List V)
  | [] => some cells
  | (i, v) :: rest => match pl[i]?, flat h v with
    | some (off, size), some xs => if xs.length = size ∧ off + xs.length ≤ cells.length then fillV h pl (splice cells off xs) rest else none
    | _, _ => none
theorem foldl_fill (off : Nat) : ∀ (l : List Value) (k : Nat) (cs : Array Value), off + k + l.length ≤ cs.size →
    ((l.zipIdx k).foldl (fun cs (p : Value × Nat) => cs.setIfInBounds (off + p.2) p.1) cs).toList = cs.toList.take (off + k) ++ l ++ cs.toList.drop (off + k + l.length)
  | [], k, cs, _ => by simp
  | v :: l, k, cs, h => by
    simp only [List.zipIdx_cons, List.foldl_cons]
    rw [foldl_fill off l (k + 1) _ (by simp at h ⊢; omega)]
    have hk : off + k < cs.toList.length := by simp at h ⊢; omega
    simp only [Array.toList_setIfInBounds, List.length_cons]
    rw [← Nat.add_assoc, List.take_succ_eq_append_getElem (by simpa using hk)]
    rw [List.take_set_of_le (Nat.le_refl _), List.drop_set_of_lt (by omega)]
    simp [Nat.add_assoc, Nat.add_comm 1]
theorem fillV_sound {C : Ctx} {s : St} {m : List Value} {a : Act} {w : World} (S : Sim C s m a w) {pl : List (Nat × Nat)} {place : Nat → Option (Nat × Nat)} (hpl : ∀ i x, pl[i]? = some x → place i = some x) :
    ∀ {parts : List (Nat × V)} {vparts : List (Nat × Value)} {cells out : List V} {cs : Array Value}, parts.length = vparts.length → (∀ (k : Nat) i v, parts[k]? = some (i, v) → ∃ u, vparts[k]? = some (i, u) ∧ Rel (env C s.h m w) v u) →
      RelL (env C s.h m w) cells cs.toList → (∀ v ∈ cs.toList, v.oneCell' = true) → fillV s.h pl cells parts = some out → ∃ cs', Instr.fill place cs vparts = some cs' ∧ RelL (env C s.h m w) out cs'.toList ∧ (∀ v ∈ cs'.toList, v.oneCell' = true)
  | [], vparts, cells, out, cs, hl, _, hR, h1, hf => by
    obtain rfl : vparts = [] := by cases vparts <;> simp_all
    simp only [fillV, Option.some.injEq] at hf; subst hf
    exact ⟨cs, rfl, hR, h1⟩
  | (i, v) :: rest, vparts, cells, out, cs, hl, hp, hR, h1, hf => by
    obtain ⟨u, hu, hru⟩ := hp 0 i v rfl
    cases vparts with
    | nil => simp at hu
    | cons p vparts =>
      simp at hu; subst hu
      simp only [fillV] at hf
      split at hf
      · rename_i off size xs h2 h3
        split at hf
        · rename_i hc
          obtain ⟨hxs, hone⟩ := flat_sound S hru h3
          have hlx := hxs.length
          have hlc := hR.length
          have hle : off + u.cells.size ≤ cs.size := by simp at hlx hlc; omega
          have hfold := foldl_fill off u.cells.toList 0 cs (by simpa using hle)
          have harr : u.cells.zipIdx.foldl (fun cs (c, j) => cs.setIfInBounds (off + j) c) cs = (u.cells.toList.zipIdx.foldl (fun cs (p : Value × Nat) => cs.setIfInBounds (off + p.2) p.1) cs) := by
            rw [← Array.foldl_toList, Array.toList_zipIdx]
          have hnew : RelL (env C s.h m w) (splice cells off xs) (u.cells.zipIdx.foldl (fun cs (c, j) => cs.setIfInBounds (off + j) c) cs).toList := by
            rw [harr, hfold]
            simpa using RelL.splice (off := off) hR hxs
          obtain ⟨cs', hcs, hout, hout1⟩ := fillV_sound S hpl (parts := rest) (vparts := vparts) (by simpa using hl) (fun k i v hk => by have := hp (k + 1) i v (by simpa using hk); simpa using this) hnew (fun v hv => by
            rw [harr, hfold] at hv
            simp only [List.mem_append] at hv
            rcases hv with (hv | hv) | hv
            · exact h1 v (List.mem_of_mem_take hv)
            · exact hone v hv
            · exact h1 v (List.mem_of_mem_drop hv)) hf
          refine ⟨cs', ?_, hout, hout1⟩
          have hs : u.cells.size = size := by simp at hlx; omega
          simp only [Instr.fill, hpl i _ h2]
          rw [if_neg (by simp only [ne_eq, Bool.or_eq_true, decide_eq_true_eq]; omega)]
          exact hcs
        · cases hf
      · cases hf
theorem zeroV_info {P : Program} {E : Env} {T : TypeId} {cs : List V} (h : zeroV P T = some cs) : ∃ it z, P.info? T = some it ∧ it.zero = some z ∧ RelL E cs z.cells.toList := by
  obtain ⟨z, hz, hR⟩ := zeroV_sound (E := E) h
  unfold zeroV at h
  split at h
  · rename_i i hi
    split at h
    · rename_i z' hz'
      have := hz default
      simp [zeroValue, typeInfo, hi, hz'] at this
      subst this
      exact ⟨i, _, hi, hz', hR⟩
    · cases h
  · cases h
def buildV (P : Program) (h : List AObj) (T : TypeId) (parts : List (Nat × V)) : Option V :=
  match placesT P T, zeroV P T with
  | some pl, some zs => if zs.all (V.one h) then (match fillV h pl zs parts with
    | some cs => some (.agg cs)
    | none => none) else none
  | _, _ => none
theorem built_of {P : Program} {T : TypeId} {pl : List (Nat × Nat)} (h : placesT P T = some pl) {it : TypeInfo} {z : Value} (hi : P.info? T = some it) (hz : it.zero = some z) :
    ∃ place : Nat → Option (Nat × Nat), (∀ i x, pl[i]? = some x → place i = some x) ∧ ∀ vparts, P.built T vparts = Instr.fill place z.cells vparts := by
  unfold placesT at h
  split at h
  · rename_i fs hu
    exact ⟨(pl.toArray[·]?), fun i x hx => by simpa using hx, fun vparts => by simp [Program.built, hi, hu, hz, h]⟩
  · rename_i n e hu
    cases he : P.info? e with
    | none => simp [he] at h
    | some ie =>
      simp only [he, Option.map_some, Option.some.injEq] at h; subst h
      refine ⟨fun i => some (i * ie.size, ie.size), fun i x hx => ?_, fun vparts => by simp [Program.built, hi, hu, hz, he]⟩
      simp only [List.getElem?_map] at hx
      cases hr : (List.range n)[i]? with
      | none => simp [hr] at hx
      | some k =>
        obtain ⟨hlt, hek⟩ := List.getElem?_eq_some_iff.1 hr
        have : i = k := by simpa using hek
        subst this
        simpa [hr] using hx
  · cases h
theorem buildV_sound {P : Program} {C : Ctx} {s : St} {m : List Value} {a : Act} {w : World} (S : Sim C s m a w) {T : TypeId} {parts : List (Nat × V)} {vparts : List (Nat × Value)} {y : V} (hl : parts.length = vparts.length)
    (hp : ∀ (k : Nat) i v, parts[k]? = some (i, v) → ∃ u, vparts[k]? = some (i, u) ∧ Rel (env C s.h m w) v u) (hb : buildV P s.h T parts = some y) :
    ∃ u', (Instr.build T vparts.toArray).run P w = .ok u' w ∧ Rel (env C s.h m w) y u' := by
  unfold buildV at hb
  split at hb
  · rename_i pl zs h1 h2
    split at hb
    · rename_i hall
      split at hb
      · rename_i cs hf
        simp only [Option.some.injEq] at hb; subst hb
        obtain ⟨it, z, hi, hz, hR⟩ := zeroV_info (E := env C s.h m w) h2
        obtain ⟨place, hpl, hbuilt⟩ := built_of h1 hi hz
        obtain ⟨cs', hcs, hout, _⟩ := fillV_sound S hpl hl hp hR (RelL.one S hR hall) hf
        refine ⟨.agg cs', ?_, ?_⟩
        · exact run_build w T vparts.toArray cs' (by rw [show vparts.toArray.toList = vparts from rfl, hbuilt]; exact hcs)
        · simp only [Rel]; exact ⟨cs', rfl, hout⟩
      · cases hb
    · cases hb
  · cases hb
end Go.Ab
