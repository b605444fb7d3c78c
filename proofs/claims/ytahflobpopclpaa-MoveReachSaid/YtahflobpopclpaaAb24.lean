import Derived.Test.YtahflobpopclpaaAb23
namespace Go.Ab
open Go Go.RowKit
set_option linter.unusedVariables false
/-! ### regions with effects, in whatever order -/
/-- The objects that operations write or make, and what each may not look at. -/
def tabL (l : List (Option (Nat × Bool))) (i : Nat) : Option (Nat × Bool) := (l[i]?).join
def forL (l : List (List Nat)) (i a : Nat) : Bool := !((l[i]?).getD []).contains a
def okC : Option (Nat × Bool) → Option (Nat × Bool) → Bool
  | none, _ => true
  | some (a, g), some (b, g') => a == b && g == g'
  | some _, none => false
theorem okC_spec {x y : Option (Nat × Bool)} {a : Nat} {g : Bool} (h : okC x y = true) (hx : x = some (a, g)) : y = some (a, g) := by
  subst hx
  cases y with
  | none => simp [okC] at h
  | some y =>
    obtain ⟨b, g'⟩ := y
    simp only [okC, Bool.and_eq_true, beq_iff_eq] at h
    obtain ⟨rfl, rfl⟩ := h
    rfl
def RegDL {P : Program} (F : Facts P) (ops : Array Oper) (tab : Nat → Option (Nat × Bool)) (p : Nat → Nat → Bool) (K : St → Prop) : List Nat → St → Prop
  | [], s => K s
  | i :: l, s => ∃ o v eff, ops[i]? = some o ∧ Local F ops (p i) i o s v eff ∧ conf tab i s eff ∧ RegDL F ops tab p K l ⟨puts s.t o.dst v, eff.app s.h⟩
theorem RegDL.regD {P : Program} {F : Facts P} {ops : Array Oper} {tab : Nat → Option (Nat × Bool)} {p : Nat → Nat → Bool} {K : St → Prop} : ∀ (n k : Nat) {s : St}, RegDL F ops tab p K (List.range' k n) s → RegD F ops tab p K n k s
  | 0, k, s, h => h
  | n + 1, k, s, h => by
    obtain ⟨o, v, eff, ho, hL, hc, hk⟩ := h
    exact ⟨o, v, eff, ho, hL, hc, RegDL.regD n (k + 1) hk⟩
def runD {P : Program} (F : Facts P) (ops : Array Oper) (tab : Nat → Option (Nat × Bool)) (p : Nat → Nat → Bool) : List Nat → St → Option St
  | [], s => some s
  | i :: l, s => match ops[i]? with
    | none => none
    | some o => match wantedV ops s o with
      | none => none
      | some false => runD F ops tab p l ⟨puts s.t o.dst (.tup []), s.h⟩
      | some true => if (seen (p i) s o.op && tame s o.op && okC (cidOf s o.op) (tab i)) = true then (match opV F s o.op with
        | some (some v, h') => runD F ops tab p l ⟨puts s.t o.dst v, h'⟩
        | some (none, h') => runD F ops tab p l ⟨puts s.t o.dst (.tup []), h'⟩
        | none => none) else none
theorem Local.of_op {P : Program} {F : Facts P} {ops : Array Oper} {tab : Nat → Option (Nat × Bool)} {p : Nat → Nat → Bool} {i : Nat} {o : Oper} {s : St} {r : Option V} {h' : List AObj} (ho : ops[i]? = some o) (hw : wantedV ops s o = some true) (hop : opV F s o.op = some (r, h'))
    (hs : seen (p i) s o.op = true) (ht : tame s o.op = true) (hc : okC (cidOf s o.op) (tab i) = true) : ∃ eff, h' = eff.app s.h ∧ Local F ops (p i) i o s (r.getD (.tup [])) eff ∧ conf tab i s eff := by
  obtain ⟨eff, rfl, hd, hl⟩ := opV_local hs ht hop
  refine ⟨eff, rfl, ⟨fun s2 h1 h2 h3 h4 => ?_, fun a o' he => ?_⟩, ?_⟩
  · have := hl s2 h1 h3 h4
    cases r with
    | some v => exact .val ho (h2.trans hw) this
    | none => exact .eff ho (h2.trans hw) this
  · subst he; exact ⟨hd.1, hd.2.1⟩
  · cases eff with
    | none => trivial
    | set a o' => exact okC_spec hc hd.2.2
    | push o' => exact okC_spec hc hd
theorem runD_append {P : Program} {F : Facts P} {ops : Array Oper} {tab : Nat → Option (Nat × Bool)} {p : Nat → Nat → Bool} {K : St → Prop} : ∀ {l1 : List Nat} {s s1 : St} {l2 : List Nat}, runD F ops tab p l1 s = some s1 → RegDL F ops tab p K l2 s1 → RegDL F ops tab p K (l1 ++ l2) s
  | [], s, s1, l2, h, k => by
    simp only [runD, Option.some.injEq] at h
    subst h; exact k
  | i :: l, s, s1, l2, h, k => by
    simp only [runD] at h
    split at h
    · cases h
    · rename_i o ho
      split at h
      · cases h
      · rename_i hw
        exact ⟨o, .tup [], .none, ho, ⟨fun s2 _ h2 _ _ => .skip ho (h2.trans hw), fun _ _ he => by cases he⟩, trivial, runD_append h k⟩
      · rename_i hw
        split at h
        · rename_i hb
          simp only [Bool.and_eq_true] at hb
          split at h
          · rename_i v h' hop
            obtain ⟨eff, rfl, hL, hc⟩ := Local.of_op (tab := tab) (p := p) ho hw hop hb.1.1 hb.1.2 hb.2
            exact ⟨o, v, eff, ho, hL, hc, runD_append h k⟩
          · rename_i h' hop
            obtain ⟨eff, rfl, hL, hc⟩ := Local.of_op (tab := tab) (p := p) ho hw hop hb.1.1 hb.1.2 hb.2
            exact ⟨o, .tup [], eff, ho, hL, hc, runD_append h k⟩
          · cases h
        · cases h
section
variable {P : Program} {b : Nat} {ro : Option Nat} {s s' s1 : St} {K : Exit → St → Prop} {id : Nat} {ops : Array Oper} {x y z : Code} {c : Operand} {t : Bool} {l l1 : List Nat} {KK : St → Prop} {tab : Nat → Option (Nat × Bool)} {p : Nat → Nat → Bool}
theorem D_pre {F : Facts P} (l1 l2 : List Nat) (h : runD F ops tab p l1 s = some s1) (k : RegDL F ops tab p KK l2 s1) : RegDL F ops tab p KK (l1 ++ l2) s := runD_append h k
theorem D_run {F : Facts P} (h : runD F ops tab p l s = some s1) (k : RegDL F ops tab p KK [] s1) : RegDL F ops tab p KK l s := by
  have := runD_append h k
  rwa [List.append_nil] at this
theorem D_nil {F : Facts P} (k : KK s) : RegDL F ops tab p KK [] s := k
theorem D_guard {F : Facts P} {i : Nat} {o : Oper} (ho : ops[i]? = some o) (hw : wantedV ops s o = some t) (h1 : t = true → RegDL F ops tab p KK (i :: l) s) (h2 : t = false → RegDL F ops tab p KK (i :: l) s) : RegDL F ops tab p KK (i :: l) s := by
  cases t
  · exact h2 rfl
  · exact h1 rfl
theorem D_call {F : Facts P} {i : Nat} {o : Oper} {f : Operand} {args : Array Operand} {ts : Array TypeId} {g : FuncId} {first caps vs dargs : List V} {r : V} (ho : ops[i]? = some o) (hw : wantedV ops s o = some true)
    (hop : o.op = .call ⟨.value f, args, ts⟩) (hx : ev s f = some (.fn g first caps)) (ha : evs s args.toList = some vs) (hb : ∃ fn, P.funcs[g]? = some fn ∧ fn.body.isSome = true ∧ (fn.name == "runtime.NumGoroutine") = false)
    (hs : V.allL (p i) (first ++ vs ++ caps) = true) (hc : convDL (fun b => b) s.h (first ++ vs ++ caps) = some dargs) (hr : Ret P g dargs r) (k : RegDL F ops tab p KK l ⟨puts s.t o.dst r, s.h⟩) : RegDL F ops tab p KK (i :: l) s := by
  refine ⟨o, r, .none, ho, ⟨fun s2 h1 h2 h3 _ => ?_, fun _ _ he => by cases he⟩, trivial, k⟩
  have hops : ∀ y ∈ #[f] ++ args, ev s2 y = ev s y := fun y hy => h1 y (by rw [hop]; exact hy)
  have hc2 : convDL (fun b => b) s2.h (first ++ vs ++ caps) = some dargs := by
    rw [convDL_local (p := p i) h3 hs]; exact hc
  refine .call ho (h2.trans hw) hop ((hops f (by simp)).trans hx) ((evs_congr (fun y hy => hops y (by simp at hy ⊢; exact .inr hy))).trans ha) hb ?_
  have := Ret.shared hr rfl (h := s2.h) (args := first ++ vs ++ caps) (by rw [frzD_of_conv hc2]; exact hc2)
  rw [frzD_of_conv hc2] at this
  exact this
theorem T_dL (F : Facts P) (tb : List (Option (Nat × Bool))) (fb : List (List Nat)) (l : List Nat) (hl : List.range ops.size = l) (hB : lexD .any ops (tabL tb) (forL fb) ops.size 0 (Array.replicate ops.size false) = true)
    (k : RegDL F ops (tabL tb) (forL fb) (K .normal) l s) : T P b ro (.region id ops true) s K := by
  refine T_regionD (F := F) hB ?_
  exact RegDL.regD _ 0 (by rw [← List.range_eq_range', hl]; exact k)
/-- A nil slice may be read as a row of one's own that is still empty. -/
theorem T_ghost (d T sz : Nat) (h : s.t[d]? = some .nil) (k : Ab.T P b ro x ⟨s.t.set d (.arr s.h.length 0), s.h ++ [.arr T sz [] false]⟩ K) : Ab.T P b ro x s K := by
  intro C E0 m a w hb L S
  obtain ⟨u, hu, hr⟩ := RelL.get d S.slots h
  simp only [Rel] at hr; subst hr
  have hl := S.len
  obtain ⟨S1, U1⟩ := S.add (o := .arr T sz [] false) (v := .slice none 0 0) (w' := w) (Below.refl _ w) (fun b hb => by cases hb) (fun _ => by
    refine ⟨[], ⟨by simp, .inl ⟨rfl, rfl⟩⟩, ?_, fun r hr => by cases hr⟩
    simp only [List.flatten_nil, RelL])
  have hslots : RelL (env C (s.h ++ [.arr T sz [] false]) (m ++ [.slice none 0 0]) w) (s.t.set d (.arr s.h.length 0)) a.tmps.toList := by
    have h1 := RelL.set d (x := .arr s.h.length 0) (u := .slice none 0 0) S1.slots (by
      simp only [Rel, env]
      refine ⟨by simp, fun T' sz' rows fr ho => ?_⟩
      simp only [List.getElem?_concat_length, Option.some.injEq, AObj.arr.injEq] at ho
      obtain ⟨_, _, rfl, _⟩ := ho
      exact ⟨by simp, fun _ => by rw [← hl]; simp⟩)
    have h2 : a.tmps.toList.set d (.slice none 0 0) = a.tmps.toList := by
      obtain ⟨hlt, he⟩ := List.getElem?_eq_some_iff.1 hu
      rw [← he]
      exact List.set_getElem_self hlt
    rw [h2] at h1
    exact h1
  exact k C E0 _ a w hb (L.trans U1.leN) ⟨S1.below, S1.out, S1.len, hslots, S1.defers, S1.objs, S1.apart, S1.low⟩
end
attribute [go_sem] runD seen seenE seenA tameE cidE tame cidOf okC tabL forL Op.operands Call.operands
end Go.Ab
