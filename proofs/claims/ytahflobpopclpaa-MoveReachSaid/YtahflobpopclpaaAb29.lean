import Derived.Test.YtahflobpopclpaaAb28
namespace Go.Ab
open Go Go.RowKit
set_option linter.unusedVariables false
/-! ### operations, run -/
abbrev R : Type := Option (Option V × Option (List AObj))
noncomputable def resV1 (v : Option V) : R :=
  match v with
  | some v => fV v fun v => some (some v, none)
  | none => none
def resM1 (v : Option V) : R :=
  match v with
  | some v => some (some v, none)
  | none => none
noncomputable def resH1 (o : Option (V × List AObj)) : R :=
  match o with
  | some (v, h) => fV v fun v => fH h fun h => some (some v, some h)
  | none => none
noncomputable def resE1 (o : Option (List AObj)) : R :=
  match o with
  | some h => fH h fun h => some (none, some h)
  | none => none
theorem resV1_eq {v : Option V} {r : Option V} {oh : Option (List AObj)} (h : resV1 v = some (r, oh)) : ∃ x, v = some x ∧ r = some x ∧ oh = none := by
  cases v with
  | none => cases h
  | some x => simp only [resV1, fV_eq, Option.some.injEq, Prod.mk.injEq] at h; exact ⟨x, rfl, h.1.symm, h.2.symm⟩
theorem resM1_eq {v : Option V} {r : Option V} {oh : Option (List AObj)} (h : resM1 v = some (r, oh)) : ∃ x, v = some x ∧ r = some x ∧ oh = none := by
  cases v with
  | none => cases h
  | some x => simp only [resM1, Option.some.injEq, Prod.mk.injEq] at h; exact ⟨x, rfl, h.1.symm, h.2.symm⟩
theorem resH1_eq {o : Option (V × List AObj)} {r : Option V} {oh : Option (List AObj)} (h : resH1 o = some (r, oh)) : ∃ x h', o = some (x, h') ∧ r = some x ∧ oh = some h' := by
  cases o with
  | none => cases h
  | some x => obtain ⟨x, h'⟩ := x; simp only [resH1, fV_eq, fH_eq, Option.some.injEq, Prod.mk.injEq] at h; exact ⟨x, h', rfl, h.1.symm, h.2.symm⟩
theorem resE1_eq {o : Option (List AObj)} {r : Option V} {oh : Option (List AObj)} (h : resE1 o = some (r, oh)) : ∃ h', o = some h' ∧ r = none ∧ oh = some h' := by
  cases o with
  | none => cases h
  | some x => simp only [resE1, fH_eq, Option.some.injEq, Prod.mk.injEq] at h; exact ⟨x, rfl, h.1.symm, h.2.symm⟩
section
variable {P : Program} (F : Facts P) (e : Operand → Option V) (h : List AObj)
noncomputable def evsG (l : List Operand) : Option (List V) := List.rec (some []) (fun x _ ih => match e x, ih with
  | some v, some vs => some (v :: vs)
  | _, _ => none) l
noncomputable def evpG (l : List (Nat × Operand)) : Option (List (Nat × V)) := List.rec (some []) (fun x _ ih => match e x.2, ih with
  | some v, some vs => some ((x.1, v) :: vs)
  | _, _ => none) l
def optG : Option Operand → Option (Option V)
  | none => some none
  | some x => match e x with
    | some v => some (some v)
    | none => none
def g1 (f : V → R) (x : Operand) : R :=
  match e x with
  | some v => f v
  | none => none
def g2 (f : V → V → R) (x y : Operand) : R :=
  match e x, e y with
  | some v, some u => f v u
  | _, _ => none
def gPick (c a b : Operand) : R :=
  match e c with
  | some (.bool true) => (match e b with
    | some _ => resM1 (e a)
    | none => none)
  | some (.bool false) => (match e a with
    | some _ => resM1 (e b)
    | none => none)
  | _ => none
noncomputable def gBox (T : TypeId) (v : V) : R :=
  match flat h v with
  | some cs => resH1 (some (.ptr h.length 0, h ++ [.box T cs]))
  | none => none
noncomputable def gAlloc (T : TypeId) : R :=
  match zeroV P T with
  | some cs => resH1 (some (.ptr h.length 0, h ++ [.box T cs]))
  | none => none
noncomputable def gBuild (T : TypeId) (ps : Array (Nat × Operand)) : R :=
  match evpG e ps.toList with
  | some vs => resV1 (buildV P h T vs)
  | none => none
noncomputable def gLit (T n : Nat) (ps : Array (Nat × Operand)) : R :=
  match evpG e ps.toList with
  | some vs => resV1 (litV P h T n vs)
  | none => none
def gNil (v : V) : R :=
  match solidV h v with
  | true => some (some v, none)
  | false => none
noncomputable def gUn (u : UnOp) (x : Operand) : R :=
  match u, e x with
  | .not, some (.bool b) => resV1 (some (.bool (!b)))
  | .neg, some (.int k n) => resV1 (some (.int k (k.wrap (0 - n))))
  | _, _ => none
noncomputable def gFunc (f : Fn) (fs cs : Array Operand) : R :=
  match f with
  | .func f => (match evsG e fs.toList, evsG e cs.toList with
    | some a, some b => some (some (.fn f a b), none)
    | _, _ => none)
  | _ => none
noncomputable def gMake (T : TypeId) (n c : Operand) : R :=
  match e n, e c with
  | some (.int .i64 k), some (.int .i64 k') => if k = k' then resH1 (makeV P h T (.int .i64 k)) else none
  | _, _ => none
noncomputable def gSlice (T : TypeId) (x : Operand) (lo hi mx : Option Operand) : R :=
  match mx with
  | some _ => none
  | none => (match e x, optG e lo, optG e hi with
    | some v, some l, some u => resV1 (sliceD P h T v l u)
    | _, _, _ => none)
def gExt (x : Operand) (i : Nat) : R :=
  match e x with
  | some (.tup cs) => resM1 cs[i]?
  | _ => none
def gIface (T : TypeId) (v : V) : R :=
  match P.underlying T with
  | some (.struct _) => some (some (.iface T v), none)
  | _ => none
noncomputable def gMap (r : Option Operand) : R :=
  match r with
  | none => resH1 (some (.map h.length, h ++ [.map []]))
  | some _ => none
noncomputable def gUpd (T : TypeId) (m k x : Operand) : R :=
  match e m, e k, e x with
  | some mv, some kv, some v => resE1 (updateH F h T mv kv v)
  | _, _, _ => none
noncomputable def gMax (a b : V) : R :=
  match a, b with
  | .int k a, .int k' b => resV1 (some (.int k (if b > a then b else a)))
  | _, _ => none
noncomputable def gMin (a b : V) : R :=
  match a, b with
  | .int k a, .int k' b => resV1 (some (.int k (if b < a then b else a)))
  | _, _ => none
noncomputable def gApp (T T' : TypeId) (v u : V) : R := if T = T' then resH1 (appendD P h T v u) else none
noncomputable def gBuiltin (b : Builtin) (args : List Operand) (ts : List TypeId) : R :=
  match b, args, ts with
  | .len, [x], [T] => g1 e (fun v => resV1 (lenV P h T v)) x
  | .append, [x, y], [T, T'] => g2 e (gApp (P := P) h T T') x y
  | .max, [x, y], _ => g2 e gMax x y
  | .min, [x, y], _ => g2 e gMin x y
  | _, _, _ => none
noncomputable def gCall (c : Call) : R :=
  match c with
  | ⟨.builtin b, args, ts⟩ => gBuiltin (P := P) e h b args.toList ts.toList
  | _ => none
noncomputable def opG (op : Op) : R :=
  match op with
  | .move x => resM1 (e x)
  | .assign x => resM1 (e x)
  | .pick c a b => gPick e c a b
  | .alloc T => gAlloc (P := P) h T
  | .box T x => g1 e (gBox h T) x
  | .build T ps => gBuild (P := P) e h T ps
  | .buildSlice T n ps => gLit (P := P) e h T n ps
  | .load T x => g1 e (fun v => resV1 (loadV P h T v)) x
  | .store T p x => g2 e (fun p v => resE1 (storeH P h T p v)) p x
  | .nilCheck x => g1 e (gNil h) x
  | .binOp b T x y _ => g2 e (fun v u => resV1 (binN F b T v u)) x y
  | .unOp u _ x => gUn e u x
  | .makeFunc f fs cs => gFunc e f fs cs
  | .makeSlice T n c => gMake (P := P) e h T n c
  | .slice T x lo hi mx => gSlice (P := P) e h T x lo hi mx
  | .fieldAddr T x f => g1 e (fun v => resV1 (fieldV P h T v f)) x
  | .field T x f => g1 e (fun v => resV1 (fieldOfV P T v f)) x
  | .indexAddr T x i => g2 e (fun v k => resV1 (indexAddrV P h T v k)) x i
  | .index T x i => g2 e (fun v k => resV1 (indexOfV P T v k)) x i
  | .extract x i => gExt e x i
  | .makeInterface T x => g1 e (gIface (P := P) T) x
  | .makeMap _ r => gMap h r
  | .insert T m k x => gUpd F e h T m k x
  | .mapUpdate T m k x => gUpd F e h T m k x
  | .lookup T x k ok => g2 e (fun v k => resV1 (lookupV F h T v k ok)) x k
  | .call c => gCall (P := P) e h c
  | _ => none
end
theorem evsG_eq {s : St} {e : Operand → Option V} (hE : ∀ x, e x = ev s x) : ∀ l, evsG e l = evs s l
  | [] => rfl
  | x :: l => by
    show (match e x, evsG e l with
      | some v, some vs => some (v :: vs)
      | _, _ => none) = _
    rw [hE, evsG_eq hE l]; rfl
theorem evpG_eq {s : St} {e : Operand → Option V} (hE : ∀ x, e x = ev s x) : ∀ l, evpG e l = evp s l
  | [] => rfl
  | (i, x) :: l => by
    show (match e x, evpG e l with
      | some v, some vs => some ((i, v) :: vs)
      | _, _ => none) = _
    rw [hE, evpG_eq hE l]; rfl
theorem optG_eq {s : St} {e : Operand → Option V} (hE : ∀ x, e x = ev s x) (o : Option Operand) : optG e o = optV s o := by
  cases o with
  | none => rfl
  | some x => simp only [optG, optV, hE]; cases ev s x <;> rfl
theorem g1_eq {s : St} {e : Operand → Option V} (hE : ∀ x, e x = ev s x) {f : V → R} {x : Operand} {r : Option V × Option (List AObj)} (h : g1 e f x = some r) : ∃ v, ev s x = some v ∧ f v = some r := by
  simp only [g1, hE] at h
  split at h
  · rename_i v hv; exact ⟨v, hv, h⟩
  · cases h
theorem g2_eq {s : St} {e : Operand → Option V} (hE : ∀ x, e x = ev s x) {f : V → V → R} {x y : Operand} {r : Option V × Option (List AObj)} (h : g2 e f x y = some r) : ∃ v u, ev s x = some v ∧ ev s y = some u ∧ f v u = some r := by
  simp only [g2, hE] at h
  split at h
  · rename_i v u hv hu; exact ⟨v, u, hv, hu, h⟩
  · cases h
theorem opG_sound {P : Program} (F : Facts P) {s : St} {e : Operand → Option V} (hE : ∀ x, e x = ev s x) {op : Op} {r : Option V} {oh : Option (List AObj)} (h : opG F e s.h op = some (r, oh)) : opV F s op = some (r, oh.getD s.h) := by
  cases op with
  | move x | assign x =>
    simp only [opG, hE] at h
    obtain ⟨x, h1, rfl, rfl⟩ := resM1_eq h
    simp only [opV, h1, Option.getD_none]
  | pick c a b =>
    simp only [opG, gPick, hE] at h
    simp only [opV]
    split at h
    · rename_i hc
      split at h
      · rename_i hb
        obtain ⟨x, h1, rfl, rfl⟩ := resM1_eq h
        simp only [hc, h1, hb, if_true, Option.getD_none]
      · cases h
    · rename_i hc
      split at h
      · rename_i hb
        obtain ⟨x, h1, rfl, rfl⟩ := resM1_eq h
        simp [hc, h1, hb]
      · cases h
    · cases h
  | alloc T =>
    simp only [opG, gAlloc] at h
    split at h
    · rename_i cs hz
      obtain ⟨x, h', h1, rfl, rfl⟩ := resH1_eq h
      cases h1
      simp only [opV, hz, Option.getD_some]
    · cases h
  | box T x =>
    obtain ⟨v, hv, h⟩ := g1_eq hE h
    simp only [gBox] at h
    split at h
    · rename_i cs hf
      obtain ⟨x, h', h1, rfl, rfl⟩ := resH1_eq h
      cases h1
      simp only [opV, hv, hf, Option.getD_some]
    · cases h
  | build T ps =>
    simp only [opG, gBuild, evpG_eq hE] at h
    split at h
    · rename_i vs hv
      obtain ⟨x, h1, rfl, rfl⟩ := resV1_eq h
      simp only [opV, hv, h1, Option.getD_none]
    · cases h
  | buildSlice T n ps =>
    simp only [opG, gLit, evpG_eq hE] at h
    split at h
    · rename_i vs hv
      obtain ⟨x, h1, rfl, rfl⟩ := resV1_eq h
      simp only [opV, hv, h1, Option.getD_none]
    · cases h
  | load T x =>
    obtain ⟨v, hv, h⟩ := g1_eq hE h
    obtain ⟨x, h1, rfl, rfl⟩ := resV1_eq h
    simp only [opV, hv, h1, Option.getD_none]
  | store T p x =>
    obtain ⟨v, u, hv, hu, h⟩ := g2_eq hE h
    obtain ⟨h', h1, rfl, rfl⟩ := resE1_eq h
    simp only [opV, hv, hu, h1, Option.getD_some]
  | nilCheck x =>
    obtain ⟨v, hv, h⟩ := g1_eq hE h
    simp only [gNil] at h
    split at h
    · rename_i hs
      simp only [Option.some.injEq, Prod.mk.injEq] at h
      obtain ⟨rfl, rfl⟩ := h
      simp only [opV, hv, hs, if_true, Option.getD_none]
    · cases h
  | binOp b T x y yt =>
    obtain ⟨v, u, hv, hu, h⟩ := g2_eq hE h
    obtain ⟨x, h1, rfl, rfl⟩ := resV1_eq h
    simp only [opV, hv, hu, h1, Option.getD_none]
  | unOp u T x =>
    simp only [opG, gUn, hE] at h
    simp only [opV]
    split at h
    · rename_i hx
      obtain ⟨x, h1, rfl, rfl⟩ := resV1_eq h
      cases h1
      simp only [hx, Option.getD_none]
    · rename_i hx
      obtain ⟨x, h1, rfl, rfl⟩ := resV1_eq h
      cases h1
      simp only [hx, Option.getD_none]
    · cases h
  | makeFunc f fs cs =>
    cases f with
    | func f =>
      simp only [opG, gFunc, evsG_eq hE] at h
      split at h
      · rename_i a b ha hb
        simp only [Option.some.injEq, Prod.mk.injEq] at h
        obtain ⟨rfl, rfl⟩ := h
        simp only [opV, ha, hb, Option.getD_none]
      · cases h
    | _ => simp [opG, gFunc] at h
  | makeSlice T n c =>
    simp only [opG, gMake, hE] at h
    simp only [opV]
    split at h
    · rename_i k k' hn hc
      split at h
      · rename_i hk
        obtain ⟨x, h', h1, rfl, rfl⟩ := resH1_eq h
        simp only [hn, hc, hk, if_true]
        rw [← hk, h1]; rfl
      · cases h
    · cases h
  | slice T x lo hi mx =>
    cases mx with
    | some z => simp [opG, gSlice] at h
    | none =>
      simp only [opG, gSlice, hE, optG_eq hE] at h
      simp only [opV]
      split at h
      · rename_i v l u hv hl hu
        obtain ⟨x, h1, rfl, rfl⟩ := resV1_eq h
        simp only [hv, hl, hu, h1, Option.getD_none]
      · cases h
  | fieldAddr T x f =>
    obtain ⟨v, hv, h⟩ := g1_eq hE h
    obtain ⟨x, h1, rfl, rfl⟩ := resV1_eq h
    simp only [opV, hv, h1, Option.getD_none]
  | field T x f =>
    obtain ⟨v, hv, h⟩ := g1_eq hE h
    obtain ⟨x, h1, rfl, rfl⟩ := resV1_eq h
    simp only [opV, hv, h1, Option.getD_none]
  | indexAddr T x i =>
    obtain ⟨v, u, hv, hu, h⟩ := g2_eq hE h
    obtain ⟨x, h1, rfl, rfl⟩ := resV1_eq h
    simp only [opV, hv, hu, h1, Option.getD_none]
  | index T x i =>
    obtain ⟨v, u, hv, hu, h⟩ := g2_eq hE h
    obtain ⟨x, h1, rfl, rfl⟩ := resV1_eq h
    simp only [opV, hv, hu, h1, Option.getD_none]
  | extract x i =>
    simp only [opG, gExt, hE] at h
    split at h
    · rename_i cs hx
      obtain ⟨x, h1, rfl, rfl⟩ := resM1_eq h
      simp only [opV, hx, h1, Option.getD_none]
    · cases h
  | makeInterface T x =>
    obtain ⟨v, hv, h⟩ := g1_eq hE h
    simp only [gIface] at h
    split at h
    · rename_i fs hu
      simp only [Option.some.injEq, Prod.mk.injEq] at h
      obtain ⟨rfl, rfl⟩ := h
      simp only [opV, hv, hu, Option.getD_none]
    · cases h
  | makeMap T r =>
    cases r with
    | some z => simp [opG, gMap] at h
    | none =>
      simp only [opG, gMap] at h
      obtain ⟨x, h', h1, rfl, rfl⟩ := resH1_eq h
      cases h1
      simp only [opV, Option.getD_some]
  | insert T m k x =>
    simp only [opG, gUpd, hE] at h
    split at h
    · rename_i h1 h2 h3
      obtain ⟨h', h4, rfl, rfl⟩ := resE1_eq h
      simp only [opV, h1, h2, h3, h4, Option.getD_some]
    · cases h
  | mapUpdate T m k x =>
    simp only [opG, gUpd, hE] at h
    split at h
    · rename_i h1 h2 h3
      obtain ⟨h', h4, rfl, rfl⟩ := resE1_eq h
      simp only [opV, h1, h2, h3, h4, Option.getD_some]
    · cases h
  | lookup T x k ok =>
    obtain ⟨v, u, hv, hu, h⟩ := g2_eq hE h
    obtain ⟨x, h1, rfl, rfl⟩ := resV1_eq h
    simp only [opV, hv, hu, h1, Option.getD_none]
  | call c =>
    obtain ⟨callee, args, ts⟩ := c
    cases callee with
    | builtin b =>
      simp only [opG, gCall, gBuiltin] at h
      simp only [opV]
      split at h
      · rename_i x T ha ht
        obtain ⟨v, hv, h⟩ := g1_eq hE h
        obtain ⟨x, h1, rfl, rfl⟩ := resV1_eq h
        simp only [hv, h1, Option.getD_none, ha, ht]
      · rename_i x y T T' ha ht
        obtain ⟨v, u, hv, hu, h⟩ := g2_eq hE h
        simp only [gApp] at h
        split at h
        · rename_i hT
          obtain ⟨x, h', h1, rfl, rfl⟩ := resH1_eq h
          simp only [hv, hu, h1, Option.getD_some, ha, ht, if_pos hT]
        · cases h
      · rename_i x y ha
        obtain ⟨v, u, hv, hu, h⟩ := g2_eq hE h
        simp only [gMax] at h
        split at h
        · obtain ⟨x, h1, rfl, rfl⟩ := resV1_eq h
          cases h1
          simp only [hv, hu, Option.getD_none, ha]
        · cases h
      · rename_i x y ha
        obtain ⟨v, u, hv, hu, h⟩ := g2_eq hE h
        simp only [gMin] at h
        split at h
        · obtain ⟨x, h1, rfl, rfl⟩ := resV1_eq h
          cases h1
          simp only [hv, hu, Option.getD_none, ha]
        · cases h
      · cases h
    | _ => simp [opG, gCall] at h
  | _ => simp [opG] at h
end Go.Ab
