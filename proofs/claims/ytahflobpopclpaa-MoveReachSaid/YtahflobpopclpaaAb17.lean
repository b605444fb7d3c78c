import Derived.Test.YtahflobpopclpaaAb16
namespace Go.Ab
open Go Go.RowKit
set_option linter.unusedVariables false

/-! ### walking a region -/
def RegW {P : Program} (F : Facts P) (ops : Array Oper) (l : List Nat) (s : St) (K : St → Prop) : Prop := ∃ s', RunR F ops l s s' ∧ K s'
/-- As far as it goes without a call. -/
def runV {P : Program} (F : Facts P) (ops : Array Oper) : List Nat → St → Option (St × List Nat)
  | [], s => some (s, [])
  | i :: l, s => match ops[i]? with
    | none => none
    | some o => match wantedV ops s o with
      | none => none
      | some false => runV F ops l ⟨puts s.t o.dst (.tup []), s.h⟩
      | some true => match opV F s o.op with
        | some (some v, h') => runV F ops l ⟨puts s.t o.dst v, h'⟩
        | some (none, h') => runV F ops l ⟨puts s.t o.dst (.tup []), h'⟩
        | none => some (s, i :: l)
theorem RegW.of_runV {P : Program} {F : Facts P} {ops : Array Oper} {K : St → Prop} : ∀ {l : List Nat} {s s1 : St} {l1 : List Nat}, runV F ops l s = some (s1, l1) → RegW F ops l1 s1 K → RegW F ops l s K
  | [], s, s1, l1, h, k => by
    simp only [runV, Option.some.injEq, Prod.mk.injEq] at h
    obtain ⟨rfl, rfl⟩ := h
    exact k
  | i :: l, s, s1, l1, h, k => by
    simp only [runV] at h
    split at h
    · cases h
    · rename_i o ho
      split at h
      · cases h
      · rename_i hw
        obtain ⟨s', hr, hk⟩ := RegW.of_runV h k
        exact ⟨s', .cons (.skip ho hw) hr, hk⟩
      · rename_i hw
        split at h
        · rename_i v h' hop
          obtain ⟨s', hr, hk⟩ := RegW.of_runV h k
          exact ⟨s', .cons (.val ho hw hop) hr, hk⟩
        · rename_i h' hop
          obtain ⟨s', hr, hk⟩ := RegW.of_runV h k
          exact ⟨s', .cons (.eff ho hw hop) hr, hk⟩
        · simp only [Option.some.injEq, Prod.mk.injEq] at h
          obtain ⟨rfl, rfl⟩ := h
          exact k
/-- The region's operations, as far as they go; then what is left. -/
def RegC {P : Program} (F : Facts P) (ops : Array Oper) (l : List Nat) (s : St) (K : St → Prop) : Prop :=
  match runV F ops l s with
  | some (s1, []) => K s1
  | some (s1, l1) => RegW F ops l1 s1 K
  | none => False
theorem RegC.w {P : Program} {F : Facts P} {ops : Array Oper} {K : St → Prop} {l : List Nat} {s : St} (h : RegC F ops l s K) : RegW F ops l s K := by
  unfold RegC at h
  split at h
  · rename_i s1 hr
    exact RegW.of_runV hr ⟨s1, .nil, h⟩
  · rename_i s1 l1 _ hr
    exact RegW.of_runV hr h
  · exact h.elim
theorem T_reg {P : Program} {b : Nat} {ro : Option Nat} {s : St} {K : Exit → St → Prop} {id : Nat} {ops : Array Oper} (F : Facts P) (h : RegC F ops (List.range ops.size) s (K .normal)) : T P b ro (.region id ops false) s K := by
  obtain ⟨s', hr, hk⟩ := h.w
  exact T_region hr hk
end Go.Ab
