import Derived.Test.YtahflobpopclpaaAb22
import Derived.Test.YtahflobpopclpaaFac
namespace Go.Ab
open Go Go.RowKit Go.Proofs
set_option linter.unusedVariables false
theorem se35 : EqInts Try.prog 35 2 := .of (by kernel_rfl) (by kernel_rfl) (by kernel_rfl) (by kernel_rfl) (by kernel_rfl) (by kernel_rfl)
theorem se67 : EqInts Try.prog 67 2 := .of (by kernel_rfl) (by kernel_rfl) (by kernel_rfl) (by kernel_rfl) (by kernel_rfl) (by kernel_rfl)
theorem se85 : EqInts Try.prog 85 6 := .ofArr (E := 3) (by kernel_rfl) (by kernel_rfl) (by kernel_rfl) (by kernel_rfl) (by kernel_rfl)
def eqk (T : TypeId) : Option (List IntKind) := if T = 35 ∨ T = 67 then some [.i64, .i64] else if T = 85 then some [.i64, .i64, .i64, .i64, .i64, .i64] else none
theorem eqk_ok {T : TypeId} {ks : List IntKind} (h : eqk T = some ks) : EqInts Try.prog T ks.length ∧ ks = List.replicate ks.length .i64 := by
  unfold eqk at h
  split at h
  · rename_i hT
    simp only [Option.some.injEq] at h; subst h
    rcases hT with rfl | rfl
    · exact ⟨se35, rfl⟩
    · exact ⟨se67, rfl⟩
  · split at h
    · rename_i hT
      simp only [Option.some.injEq] at h; subst h; subst hT
      exact ⟨se85, rfl⟩
    · cases h
def F : Facts Try.prog where
  eqK := eqk
  eq_ok T ks h xa xb x y w ha hb := by
    obtain ⟨h1, h2⟩ := eqk_ok h
    have := (h1.ops xa xb x y w ha hb).1
    rwa [← h2] at this
  neq_ok T ks h xa xb x y w ha hb := by
    obtain ⟨h1, h2⟩ := eqk_ok h
    have := (h1.ops xa xb x y w ha hb).2
    rwa [← h2] at this
  mixed := by kernel_rfl
  equal_ok T ks h xa xb w ha hb := by
    obtain ⟨h1, h2⟩ := eqk_ok h
    have := h1.eq xa xb w ha hb
    rwa [← h2] at this
  check_ok T ks h xa e w ha := by
    obtain ⟨h1, h2⟩ := eqk_ok h
    have := h1.chk xa e w ha
    rwa [← h2] at this
  wide_ok T ks h := (eqk_ok h).1.wide
theorem F_eqK (T : Nat) : F.eqK T = if T = 35 ∨ T = 67 then some [.i64, .i64] else if T = 85 then some [.i64, .i64, .i64, .i64, .i64, .i64] else none := rfl
end Go.Ab
