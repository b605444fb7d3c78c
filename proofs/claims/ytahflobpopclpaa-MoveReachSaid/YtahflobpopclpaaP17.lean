import Derived.Test.YtahflobpopclpaaAb39
import Derived.Test.YtahflobpopclpaaP16
namespace Go.Ab
open Go Go.RowKit Go.Proofs
set_option linter.unusedVariables false
section
variable {H : Type} {enc : TypeId × Value → H} {w : World}
theorem opens_ints : Opens enc Try.prog w 23 (fun l : List Int => [.sl 1 (rI l)]) := opens_slice Try.underlying23 (by kernel_rfl) (by omega) (opens_int Try.underlying3) (fun _ => rfl)
theorem opens_bools : Opens enc Try.prog w 24 (fun l : List Bool => [.sl 1 (rB l)]) := opens_slice Try.underlying24 (by kernel_rfl) (by omega) (opens_bool Try.underlying4) (fun _ => rfl)
theorem opens_rows : Opens enc Try.prog w 22 (fun l : List (List Int) => [.sl 1 (rL l)]) := opens_slice Try.underlying22 (by kernel_rfl) (by omega) opens_ints (fun _ => rfl)
theorem opens_house : Opens enc Try.prog w 40 (fun h : House => [.int .i64 h.lot, .sl 1 (rI h.wishes), .bool h.school]) := by
  intro base spare held fuel cs x h
  obtain ⟨xs, m, _, _, hlen, hxl, hf⟩ := DataW.trod_struct Try.underlying40 h
  rcases xs with _ | ⟨x0, _ | ⟨x1, _ | ⟨x2, _ | ⟨x3, xs⟩⟩⟩⟩ <;> simp at hxl
  obtain ⟨y0, h0⟩ := opens_int Try.underlying3 _ _ _ _ _ _ (hf 0 _ rfl)
  change RelL _ _ (List.take (Try.prog.cellsOf 3) (List.drop 0 cs)) at h0
  obtain ⟨y1, h1⟩ := opens_ints _ _ _ _ _ _ (hf 1 _ rfl)
  change RelL _ _ (List.take (Try.prog.cellsOf 23) (List.drop 1 cs)) at h1
  obtain ⟨y2, h2⟩ := opens_bool Try.underlying4 _ _ _ _ _ _ (hf 2 _ rfl)
  change RelL _ _ (List.take (Try.prog.cellsOf 4) (List.drop 2 cs)) at h2
  refine ⟨⟨y0, y1, y2⟩, ?_⟩
  have c0 : Try.prog.cellsOf 3 = 1 := by kernel_rfl
  have c1 : Try.prog.cellsOf 23 = 1 := by kernel_rfl
  have c2 : Try.prog.cellsOf 4 = 1 := by kernel_rfl
  have ct : Try.prog.cellsOf 40 = 3 := by kernel_rfl
  rw [c0] at h0; rw [c1] at h1; rw [c2] at h2; rw [ct] at hlen
  exact opens_field (off := 0) (n := 1) (k := 1) rfl h0 (opens_field (off := 1) (n := 1) (k := 2) rfl h1 (opens_field (off := 2) (n := 1) (k := 3) rfl h2 (opens_end hlen)))
theorem opens_pair : Opens enc Try.prog w 43 (fun h : Int × Int => [.int .i64 h.1, .int .i64 h.2]) := by
  intro base spare held fuel cs x h
  obtain ⟨xs, m, _, _, hlen, hxl, hf⟩ := DataW.trod_struct Try.underlying43 h
  rcases xs with _ | ⟨x0, _ | ⟨x1, _ | ⟨x2, xs⟩⟩⟩ <;> simp at hxl
  obtain ⟨y0, h0⟩ := opens_int Try.underlying3 _ _ _ _ _ _ (hf 0 _ rfl)
  change RelL _ _ (List.take (Try.prog.cellsOf 3) (List.drop 0 cs)) at h0
  obtain ⟨y1, h1⟩ := opens_int Try.underlying3 _ _ _ _ _ _ (hf 1 _ rfl)
  change RelL _ _ (List.take (Try.prog.cellsOf 3) (List.drop 1 cs)) at h1
  refine ⟨⟨y0, y1⟩, ?_⟩
  have c0 : Try.prog.cellsOf 3 = 1 := by kernel_rfl
  have ct : Try.prog.cellsOf 43 = 2 := by kernel_rfl
  rw [c0] at h0 h1; rw [ct] at hlen
  exact opens_field (off := 0) (n := 1) (k := 1) rfl h0 (opens_field (off := 1) (n := 1) (k := 2) rfl h1 (opens_end hlen))
theorem opens_houses : Opens enc Try.prog w 25 (fun l : List House => [.sl 3 (rH l)]) := opens_slice Try.underlying25 (by kernel_rfl) (by omega) opens_house (fun _ => rfl)
theorem opens_kin : Opens enc Try.prog w 26 (fun l : List (Int × Int) => [.sl 2 (rP l)]) := opens_slice Try.underlying26 (by kernel_rfl) (by omega) opens_pair (fun _ => rfl)
theorem opens_town : Opens enc Try.prog w 28 cT := by
  intro base spare held fuel cs x h
  obtain ⟨xs, m, _, _, hlen, hxl, hf⟩ := DataW.trod_struct Try.underlying28 h
  rcases xs with _ | ⟨x0, _ | ⟨x1, _ | ⟨x2, _ | ⟨x3, _ | ⟨x4, _ | ⟨x5, _ | ⟨x6, xs⟩⟩⟩⟩⟩⟩⟩ <;> simp at hxl
  obtain ⟨y0, h0⟩ := opens_rows _ _ _ _ _ _ (hf 0 _ rfl)
  change RelL _ _ (List.take (Try.prog.cellsOf 22) (List.drop 0 cs)) at h0
  obtain ⟨y1, h1⟩ := opens_int Try.underlying3 _ _ _ _ _ _ (hf 1 _ rfl)
  change RelL _ _ (List.take (Try.prog.cellsOf 3) (List.drop 1 cs)) at h1
  obtain ⟨y2, h2⟩ := opens_ints _ _ _ _ _ _ (hf 2 _ rfl)
  change RelL _ _ (List.take (Try.prog.cellsOf 23) (List.drop 2 cs)) at h2
  obtain ⟨y3, h3⟩ := opens_bools _ _ _ _ _ _ (hf 3 _ rfl)
  change RelL _ _ (List.take (Try.prog.cellsOf 24) (List.drop 3 cs)) at h3
  obtain ⟨y4, h4⟩ := opens_houses _ _ _ _ _ _ (hf 4 _ rfl)
  change RelL _ _ (List.take (Try.prog.cellsOf 25) (List.drop 4 cs)) at h4
  obtain ⟨y5, h5⟩ := opens_kin _ _ _ _ _ _ (hf 5 _ rfl)
  change RelL _ _ (List.take (Try.prog.cellsOf 26) (List.drop 5 cs)) at h5
  refine ⟨⟨y0, y1, y2, y3, y4, y5⟩, ?_⟩
  have c0 : Try.prog.cellsOf 22 = 1 := by kernel_rfl
  have c1 : Try.prog.cellsOf 3 = 1 := by kernel_rfl
  have c2 : Try.prog.cellsOf 23 = 1 := by kernel_rfl
  have c3 : Try.prog.cellsOf 24 = 1 := by kernel_rfl
  have c4 : Try.prog.cellsOf 25 = 1 := by kernel_rfl
  have c5 : Try.prog.cellsOf 26 = 1 := by kernel_rfl
  have ct : Try.prog.cellsOf 28 = 6 := by kernel_rfl
  rw [c0] at h0; rw [c1] at h1; rw [c2] at h2; rw [c3] at h3; rw [c4] at h4; rw [c5] at h5; rw [ct] at hlen
  exact opens_field (off := 0) (n := 1) (k := 1) rfl h0 (opens_field (off := 1) (n := 1) (k := 2) rfl h1 (opens_field (off := 2) (n := 1) (k := 3) rfl h2 (opens_field (off := 3) (n := 1) (k := 4) rfl h3 (opens_field (off := 4) (n := 1) (k := 5) rfl h4 (opens_field (off := 5) (n := 1) (k := 6) rfl h5 (opens_end hlen))))))
/-- A town that comes in. -/
theorem town_in {base : Nat} {spare : Nat → Bool} {held : Bool} {v : Value} {d : DataW H} {ps : List MemPlace} (h : DataW.Trod enc Try.prog w base spare held 28 v d ps) : ∃ t : Town, Rel (E0 w) (.agg (cT t)) v := by
  obtain ⟨fuel, h⟩ := h
  obtain ⟨_, _, _, _, hlen, _, _⟩ := DataW.trod_struct Try.underlying28 h
  have ct : Try.prog.cellsOf 28 = 6 := by kernel_rfl
  rw [ct] at hlen
  obtain ⟨t, ht⟩ := opens_town _ _ _ _ _ _ h
  refine ⟨t, ?_⟩
  cases v <;> simp [Value.cells] at hlen ht
  simp only [Rel]
  exact ⟨_, rfl, ht⟩
/-- A list of whole numbers that comes in. -/
theorem ints_in {base : Nat} {spare : Nat → Bool} {held : Bool} {v : Value} {d : DataW H} {ps : List MemPlace} (h : DataW.Trod enc Try.prog w base spare held 23 v d ps) (hv : ∃ a l c, v = .slice a l c) : ∃ l : List Int, Rel (E0 w) (.sl 1 (rI l)) v := by
  obtain ⟨fuel, h⟩ := h
  obtain ⟨l, hl⟩ := opens_ints _ _ _ _ _ _ h
  obtain ⟨a, n, c, rfl⟩ := hv
  simp only [Value.cells, RelL] at hl
  obtain ⟨u, us, e, hr, rfl⟩ := hl
  simp only [List.cons.injEq, and_true] at e
  exact ⟨l, e ▸ hr⟩
end
end Go.Ab
