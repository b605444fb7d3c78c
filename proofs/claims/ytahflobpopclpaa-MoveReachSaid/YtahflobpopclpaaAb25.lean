import Derived.Test.YtahflobpopclpaaAb24
namespace Go.Ab
open Go Go.RowKit
set_option linter.unusedVariables false
section
variable {P : Program} {b : Nat} {ro : Option Nat} {s s' : St} {K : Exit → St → Prop} {x y : Code} {α : Type} {mask : List Bool} {g : α → St} {Post : α → Prop}
/-! ### several ways in, one way on -/
def joinK (mask : List Bool) (g : α → St) (Post : α → Prop) (K : Exit → St → Prop) : Exit → St → Prop
  | .normal, s' => ∃ a, (⟨forget mask s'.t, s'.h⟩ : St) = g a ∧ Post a
  | e, s' => K e s'
theorem T_join (mask : List Bool) (g : α → St) (Post : α → Prop) (h : T P b ro x s (joinK mask g Post K)) (k : ∀ a, Post a → T P b ro y (g a) K) : T P b ro (.seq x y) s K :=
  T_seq (h.mono fun e s' hk => by
    cases e with
    | normal =>
      obtain ⟨a, h1, h2⟩ := hk
      have := k a h2
      rw [← h1] at this
      exact T_forget mask this
    | _ => exact hk)
theorem K_join (a : α) (h1 : (⟨forget mask s.t, s.h⟩ : St) = g a) (h2 : Post a) : joinK mask g Post K .normal s := ⟨a, h1, h2⟩
theorem K_joinE {j : Nat} (h : K (.exit j) s) : joinK mask g Post K (.exit j) s := h
theorem K_joinR (h : K .ret s) : joinK mask g Post K .ret s := h
end
end Go.Ab
