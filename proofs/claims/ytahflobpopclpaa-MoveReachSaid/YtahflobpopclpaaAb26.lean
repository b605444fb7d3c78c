import Derived.Test.YtahflobpopclpaaAb25
namespace Go.Ab
open Go Go.RowKit
set_option linter.unusedVariables false
/-! ### functions that are handed function values: the heap is the caller's -/
/-- The end of a call that leaves the caller's heap as it was. -/
def finS (P : Program) (fn : Func) (h : List AObj) (r : V) : Exit → St → Prop := fun x s => (match x with | .normal | .ret => True | _ => False) ∧ resV P fn s = some r ∧ s.h.take h.length = h ∧ h.length ≤ s.h.length
/-- All that the heap holds leads into it. -/
def Closed (h : List AObj) : Prop := ∀ o ∈ h, o.all (fun i => decide (i < h.length)) = true
theorem RetS_fin {P : Program} {f : FuncId} {fn : Func} {c : Code} {args : List V} {h : List AObj} {r : V} (hf : P.funcs[f]? = some fn) (hb : fn.body = some c) (hr : r.all (fun i => decide (i < h.length)) = true) (hc : Closed h)
    (hT : T P h.length none c ⟨enter fn args, h⟩ (finS P fn h r)) : RetS P f args h r h :=
  RetS_intro hf hb (hT.mono fun x s ⟨h1, h2, h3, h4⟩ => ⟨h1, h2, h.length, Nat.le_refl _, h4, h3, hr, hc⟩)
theorem finS_ret {P : Program} {fn : Func} {h : List AObj} {r r0 : V} {s : St} (h1 : resV P fn s = some r0) (h2 : s.h.take h.length = h) (h3 : h.length ≤ s.h.length) (h4 : r0 = r) : finS P fn h r .ret s := ⟨trivial, h4 ▸ h1, h2, h3⟩
theorem heap_new (h l : List AObj) (o : AObj) : (h ++ o :: l)[h.length]? = some o := by simp
theorem heap_new1 (h l : List AObj) (o p : AObj) : (h ++ o :: p :: l)[h.length + 1]? = some p := by simp
theorem heap_len1 (h : List AObj) (o : AObj) : (h ++ [o]).length = h.length + 1 := by simp
theorem heap_len2 (h : List AObj) (o p : AObj) : (h ++ [o, p]).length = h.length + 2 := by simp
theorem heap_set (h l : List AObj) (o p : AObj) : (h ++ o :: l).set h.length p = h ++ p :: l := by simp
theorem heap_set1 (h l : List AObj) (o p q : AObj) : (h ++ o :: q :: l).set (h.length + 1) p = h ++ o :: p :: l := by
  rw [List.set_append_right _ _ (by omega)]; simp
theorem heap_take (h l : List AObj) : (h ++ l).take h.length = h := by simp
theorem heap_app (h l m : List AObj) : (h ++ l) ++ m = h ++ (l ++ m) := by simp
end Go.Ab
