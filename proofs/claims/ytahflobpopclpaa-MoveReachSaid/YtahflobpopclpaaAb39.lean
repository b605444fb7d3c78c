import Derived.Test.YtahflobpopclpaaAb38
import Derived.Deep.Slices
import Derived.ChangeArms
namespace Go.Ab
open Go Go.RowKit
set_option linter.unusedVariables false
/-! ### arguments, opened -/
def E0 (w : World) : Env := ⟨fun _ => False, [], [], w⟩
theorem cell_lt {w : World} {a : Addr} {v : Value} (h : w.cell? a = some v) : a.block < w.heap.size := by
  apply Decidable.byContradiction
  intro hn
  unfold World.cell? at h
  rw [Array.getElem?_eq_none (by omega)] at h
  simp at h
section
variable {H : Type} (enc : TypeId × Value → H) (P : Program) (w : World)
/-- What reads as a value of type t is told by e. -/
def Opens (t : TypeId) {α : Type} (e : α → List V) : Prop :=
  ∀ (base : Nat) (spare : Nat → Bool) (held : Bool) (fuel : Nat) (cs : List Value) (x : DataW H × List MemPlace), DataW.trod enc P w base spare held fuel t cs = some x → ∃ y : α, RelL (E0 w) (e y) cs
variable {enc P w}
theorem opens_int {t : TypeId} {k : IntKind} (ht : P.underlying t = some (.int k)) : Opens enc P w t (fun n : Int => [.int k n]) := by
  intro base spare held fuel cs x h
  obtain ⟨n, rfl, _, _⟩ := DataW.trod_int ht h
  exact ⟨n, by simp [RelL, Rel]⟩
theorem opens_bool {t : TypeId} (ht : P.underlying t = some .bool) : Opens enc P w t (fun b : Bool => [.bool b]) := by
  intro base spare held fuel cs x h
  obtain ⟨b, rfl, _⟩ := DataW.trod_bool ht h
  exact ⟨b, by simp [RelL, Rel]⟩
theorem opens_slice {t e : TypeId} {sz : Nat} {α : Type} {f : α → List V} (ht : P.underlying t = some (.slice e)) (hs : P.cellsOf e = sz) (hpos : 0 < sz) (he : Opens enc P w e f) (hl : ∀ y, (f y).length = sz) : Opens enc P w t (fun l : List α => [.sl sz (l.map f)]) := by
  intro base spare held fuel cs x h
  rcases Deep.open_slice ht h with ⟨rfl, _⟩ | ⟨a, len, cap, m, n, D, Pl, rfl, _, hlc, hcm, hm, _, hel⟩
  · exact ⟨[], by simp [RelL, Rel]⟩
  · rw [hs] at hel
    have key : ∀ n k, k + n = len → ∃ l : List α, l.length = n ∧ RelRows (E0 w) a sz (k * sz) (l.map f) ∧ (l = [] ∨ a.block < w.heap.size) := by
      intro n
      induction n with
      | zero => intro k _; exact ⟨[], rfl, by simp [RelRows], .inl rfl⟩
      | succ n ih =>
        intro k hk
        have hkm : k < m := by rw [hm]; split <;> omega
        obtain ⟨cs', h1, h2⟩ := hel k hkm
        obtain ⟨y, hy⟩ := he _ _ _ _ _ _ h2
        obtain ⟨_, hlen, hcell⟩ := World.cells?_some h1
        obtain ⟨l, e1, e2, _⟩ := ih (k + 1) (by omega)
        refine ⟨y :: l, by simp [e1], ?_, .inr ?_⟩
        · simp only [List.map_cons, RelRows]
          refine ⟨hl y, RelCells.of hy (fun j v hj => ?_), by rw [Nat.succ_mul] at e2; exact e2⟩
          have hjl := (List.getElem?_eq_some_iff.1 hj).1
          have := hcell j (by omega)
          rw [Deep.add_add] at this
          simpa only [E0, hj] using this
        · have h0 := hcell 0 (by omega)
          have hc0 : cs'[0]? = some cs'[0] := List.getElem?_eq_getElem (by omega)
          rw [hc0] at h0
          have := cell_lt h0
          rwa [add_block, add_block] at this
    obtain ⟨l, e1, e2, e3⟩ := key len 0 (by omega)
    refine ⟨l, ?_⟩
    simp only [RelL, Rel]
    refine ⟨_, [], rfl, ⟨some a, cap, by simp [e1], ⟨by simp [e1]; exact hlc, ?_⟩, ?_⟩, rfl⟩
    · have : cap ≤ 9223372036854775807 := by simpa only [maxLen] using hcm
      simp [e1]; omega
    · rcases e3 with rfl | e3
      · exact .inl rfl
      · exact .inr ⟨a, rfl, by simp [E0], e3, by simpa using e2⟩
/-- A field, and what lies behind it. -/
theorem opens_field {E : Env} {cs : List Value} {xs ys : List V} {off n k : Nat} (hk : off + n = k) (h1 : RelL E ys ((cs.drop off).take n)) (h2 : RelL E xs (cs.drop k)) : RelL E (ys ++ xs) (cs.drop off) := by
  rw [← List.take_append_drop n (cs.drop off), List.drop_drop, hk]
  exact h1.append h2
theorem opens_end {E : Env} {cs : List Value} {n : Nat} (h : cs.length = n) : RelL E [] (cs.drop n) := by
  rw [List.drop_eq_nil_of_le (by omega)]
  simp only [RelL]
end
end Go.Ab
