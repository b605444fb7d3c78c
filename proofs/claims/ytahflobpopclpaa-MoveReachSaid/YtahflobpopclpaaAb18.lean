import Derived.Test.YtahflobpopclpaaAb17
namespace Go.Ab
open Go Go.RowKit
set_option linter.unusedVariables false

/-! ### what an operation looks at -/
/-- The two heaps agree where p lets by. -/
def Same (p : Nat → Bool) (h h2 : List AObj) : Prop := ∀ i, p i = true → h2[i]? = h[i]?
section
variable {p : Nat → Bool} {h h2 : List AObj} {P : Program}
theorem cur_local (S : Same p h h2) {x : V} (hx : x.all p = true) : cur h2 x = cur h x := by
  cases x <;> simp only [cur, V.all] at * <;> rw [S _ hx]
theorem one_local (S : Same p h h2) {x : V} (hx : x.all p = true) : V.one h2 x = V.one h x := by
  cases x <;> simp only [V.one] <;> exact cur_local S hx
theorem ones_local (S : Same p h h2) : ∀ {xs : List V}, V.allL p xs = true → xs.all (V.one h2) = xs.all (V.one h)
  | [], _ => rfl
  | x :: xs, hx => by
    simp only [V.allL, Bool.and_eq_true] at hx
    simp only [List.all_cons, one_local S hx.1, ones_local S hx.2]
theorem flat_local (S : Same p h h2) {x : V} (hx : x.all p = true) : flat h2 x = flat h x := by
  cases x with
  | agg cs =>
    simp only [V.all] at hx
    simp only [flat, ones_local S hx]
  | _ => simp only [flat, one_local S hx]
theorem cellsAt_local (S : Same p h h2) {x : V} (hx : x.all p = true) : cellsAt h2 x = cellsAt h x := by
  cases x <;> simp only [cellsAt, V.all] at * <;> rw [S _ hx]
theorem loadV_local (S : Same p h h2) {T : TypeId} {x : V} (hx : x.all p = true) : loadV P h2 T x = loadV P h T x := by
  simp only [loadV, cellsAt_local S hx]
theorem shiftV_local (S : Same p h h2) {x : V} {off : Nat} (hx : x.all p = true) : shiftV h2 x off = shiftV h x off := by
  cases x <;> simp only [shiftV] <;> rw [cur_local S hx]
theorem fieldV_local (S : Same p h h2) {T f : Nat} {x : V} (hx : x.all p = true) : fieldV P h2 T x f = fieldV P h T x f := by
  simp only [fieldV]
  cases foff P T f <;> simp only [shiftV_local S hx]
theorem indexAddrV_local (S : Same p h h2) {T : Nat} {x i : V} (hx : x.all p = true) : indexAddrV P h2 T x i = indexAddrV P h T x i := by
  cases i <;> simp only [indexAddrV]
  split
  · cases elemT P T with
    | none => simp only [shiftV_local S hx]
    | some e =>
      cases x <;> simp only [V.all] at * <;> rw [S _ hx]
  · rfl
theorem sliceD_local (S : Same p h h2) {T : Nat} {x : V} {lo hi : Option V} (hx : x.all p = true) : sliceD P h2 T x lo hi = sliceD P h T x lo hi := by
  cases x <;> simp only [sliceD, V.all] at *
  rw [S _ hx]
def allP (p : Nat → Bool) : List (Nat × V) → Bool
  | [] => true
  | (_, v) :: r => v.all p && allP p r
theorem fillV_local (S : Same p h h2) {pl : List (Nat × Nat)} : ∀ {parts : List (Nat × V)} {cells : List V}, allP p parts = true → fillV h2 pl cells parts = fillV h pl cells parts
  | [], _, _ => rfl
  | (i, v) :: r, cells, hp => by
    simp only [allP, Bool.and_eq_true] at hp
    simp only [fillV, flat_local S hp.1]
    split
    · split
      · exact fillV_local S hp.2
      · rfl
    · rfl
theorem ofCell_all {v : Value} {x : V} (h : ofCell v = some x) : x.all p = true := by
  unfold ofCell at h
  split at h <;> simp at h <;> subst h <;> simp [V.all]
theorem ofCells_all : ∀ {vs : List Value} {xs : List V}, ofCells vs = some xs → V.allL p xs = true
  | [], xs, h => by simp [ofCells] at h; subst h; simp [V.allL]
  | v :: vs, xs, h => by
    simp only [ofCells] at h
    split at h
    · rename_i x xs' h1 h2
      simp at h; subst h
      simp [V.allL, ofCell_all h1, ofCells_all h2]
    · cases h
theorem ofValue_all {v : Value} {x : V} (h : ofValue v = some x) : x.all p = true := by
  unfold ofValue at h
  split at h
  · split at h
    · rename_i xs hx
      simp at h; subst h; simp [V.all, ofCells_all hx]
    · cases h
  · split at h
    · simp at h; subst h; simp [V.all, V.allL]
    · cases h
  · exact ofCell_all h
theorem zeroV_all {T : TypeId} {zs : List V} (h : zeroV P T = some zs) : V.allL p zs = true := by
  unfold zeroV at h
  split at h
  · split at h
    · split at h
      · rename_i cs hc
        simp at h; subst h
        have := ofValue_all (p := p) hc
        simpa [V.all] using this
      · cases h
      · rename_i x hx _ _
        simp at h; subst h
        have := ofValue_all (p := p) ‹ofValue _ = some _›
        simp [V.allL, this]
      · cases h
    · cases h
  · cases h
theorem buildV_local (S : Same p h h2) {T : TypeId} {parts : List (Nat × V)} (hp : allP p parts = true) : buildV P h2 T parts = buildV P h T parts := by
  simp only [buildV]
  cases placesT P T with
  | none => rfl
  | some pl =>
    cases hz : zeroV P T with
    | none => rfl
    | some zs => simp only [ones_local S (zeroV_all hz), fillV_local S hp]
theorem litV_local (S : Same p h h2) {T n : Nat} {parts : List (Nat × V)} (hp : allP p parts = true) : litV P h2 T n parts = litV P h T n parts := by
  simp only [litV]
  cases elemT P T with
  | none => rfl
  | some e =>
    obtain ⟨E, sz⟩ := e
    simp only
    cases hz : zeroV P E with
    | none => rfl
    | some zs => simp only [ones_local S (zeroV_all hz), fillV_local S hp]
theorem solidV_local (S : Same p h h2) {x : V} (hx : x.all p = true) : solidV h2 x = solidV h x := by
  cases x <;> simp only [solidV] <;> exact cur_local S hx
theorem lenV_local (S : Same p h h2) {T : TypeId} {x : V} (hx : x.all p = true) : lenV P h2 T x = lenV P h T x := by
  simp only [lenV]
  split <;> first | rfl | rw [cur_local S hx]
theorem conv_local (S : Same p h h2) {ok : Bool → Bool} {x : V} (hx : x.all p = true) : conv ok h2 x = conv ok h x := by
  cases x <;> simp only [conv, V.all] at * <;> rw [S _ hx]
theorem convL_local (S : Same p h h2) {ok : Bool → Bool} : ∀ {xs : List V}, V.allL p xs = true → convL ok h2 xs = convL ok h xs
  | [], _ => rfl
  | x :: xs, hx => by
    simp only [V.allL, Bool.and_eq_true] at hx
    simp only [convL, conv_local S hx.1, convL_local S hx.2]
theorem convD_local (S : Same p h h2) {ok : Bool → Bool} {x : V} (hx : x.all p = true) : convD ok h2 x = convD ok h x := by
  cases x with
  | agg cs => simp only [V.all] at hx; simp only [convD, convL_local S hx]
  | tup cs => simp only [V.all] at hx; simp only [convD, convL_local S hx]
  | _ => simp only [convD]; exact conv_local S hx
theorem convDL_local (S : Same p h h2) {ok : Bool → Bool} : ∀ {xs : List V}, V.allL p xs = true → convDL ok h2 xs = convDL ok h xs
  | [], _ => rfl
  | x :: xs, hx => by
    simp only [V.allL, Bool.and_eq_true] at hx
    simp only [convDL, convD_local S hx.1, convDL_local S hx.2]
end
/-- Rows that may be handed on as data are frozen: nothing is left to freeze. -/
theorem frz1_of_conv {h : List AObj} {x y : V} (hc : conv (fun b => b) h x = some y) : frz1 h x = h := by
  cases x <;> simp only [frz1]
  simp only [conv] at hc
  split at hc
  · rename_i T sz rows fr ho
    split at hc
    · rename_i hb
      simp only [ho]
      rw [show fr = true from hb.2.1]
    · cases hc
  · cases hc
theorem frzL_of_conv {h : List AObj} : ∀ {xs ys : List V}, convL (fun b => b) h xs = some ys → frzL h xs = h
  | [], _, _ => rfl
  | x :: xs, ys, hc => by
    simp only [convL] at hc
    split at hc
    · rename_i h1 h2
      simp only [frzL, frz1_of_conv h1, frzL_of_conv h2]
    · cases hc
theorem frzD_of_conv {h : List AObj} : ∀ {xs ys : List V}, convDL (fun b => b) h xs = some ys → frzD h xs = h
  | [], _, _ => rfl
  | x :: xs, ys, hc => by
    simp only [convDL] at hc
    split at hc
    · rename_i h1 h2
      cases x with
      | agg cs =>
        simp only [convD] at h1
        split at h1
        · rename_i h3
          simp only [frzD, frzL_of_conv h3, frzD_of_conv h2]
        · cases h1
      | tup cs => simp only [frzD, frz1, frzD_of_conv h2]
      | _ => simp only [convD] at h1; simp only [frzD]; rw [frz1_of_conv h1]; exact frzD_of_conv h2
    · cases hc
end Go.Ab
