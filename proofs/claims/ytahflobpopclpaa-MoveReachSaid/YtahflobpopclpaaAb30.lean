import Derived.Test.YtahflobpopclpaaAb38
namespace Go.Ab
open Go Go.RowKit
set_option linter.unusedVariables false
/-! ### the machine, run -/
structure Sx where
  t : Tr
  h : List AObj
structure Interp where
  code : Bool → Nat → Nat → Code → Sx → Option (Exit × Sx)
  data : FuncId → List V → Option V
  call : FuncId → List V → List AObj → Option (V × List AObj)
  yld : Nat → List V → List AObj → Option (V × List AObj)
def Interp.bot : Interp := ⟨fun _ _ _ _ _ => none, fun _ _ => none, fun _ _ _ => none, fun _ _ _ => none⟩
noncomputable def evT (t : Tr) : Operand → Option V
  | .tmp i => t.get i
  | .const v => ofValue v
  | .func f => some (.fn f [] [])
  | .global _ => none
noncomputable def fPut {β : Type} (t : Tr) (d : Option Tmp) (v : V) (k : Tr → β) : β :=
  match d with
  | some d => t.set d v k
  | none => k t
def callOp : Op → Option (Operand × Array Operand)
  | .call ⟨.value x, args, _⟩ => some (x, args)
  | _ => none
theorem callOp_spec {op : Op} {x : Operand} {args : Array Operand} (h : callOp op = some (x, args)) : ∃ ts, op = .call ⟨.value x, args, ts⟩ := by
  unfold callOp at h
  split at h
  · rename_i x' args' ts
    simp only [Option.some.injEq, Prod.mk.injEq] at h
    obtain ⟨rfl, rfl⟩ := h
    exact ⟨ts, rfl⟩
  · cases h
noncomputable def want2 (ops : Array Oper) (t : Tr) (j : Nat) (want : Bool) : Option Bool :=
  match (ops[j]?).bind (·.dst) with
  | some d => (match t.get d with
    | some (.bool b) => some (b == want)
    | some (.tup _) => some false
    | _ => none)
  | none => none
noncomputable def wantK (ops : Array Oper) (t : Tr) (o : Oper) : Option Bool :=
  match o.guard with
  | none => some true
  | some (j, want) => want2 ops t j want
section
variable {P : Program} (F : Facts P) {β : Type}
noncomputable def putK (r : Option V) (oh : Option (List AObj)) (dst : Option Tmp) (t : Tr) (h : List AObj) (k : Tr → List AObj → Option β) : Option β :=
  match r, oh with
  | some v, none => fPut t dst v fun t => k t h
  | some v, some h => fPut t dst v fun t => k t h
  | none, none => fPut t dst (.tup []) fun t => k t h
  | none, some h => fPut t dst (.tup []) fun t => k t h
noncomputable def callK (I : Interp) (f : Option V) (args : Option (List V)) (dst : Option Tmp) (t : Tr) (h : List AObj) (k : Tr → List AObj → Option β) : Option β :=
  match f, args with
  | some (.fn g first caps), some vs => (match I.call g (first ++ vs ++ caps) h with
    | some (r, h') => fPut t dst r fun t => k t h'
    | none => none)
  | some (.yield j), some vs => (match I.yld j vs h with
    | some (r, h') => fPut t dst r fun t => k t h'
    | none => none)
  | _, _ => none
noncomputable def call0 (I : Interp) (o : Oper) (t : Tr) (h : List AObj) (k : Tr → List AObj → Option β) : Option β :=
  match callOp o.op with
  | some (x, args) => callK I (evT t x) (evsG (evT t) args.toList) o.dst t h k
  | none => none
noncomputable def doK (I : Interp) (o : Oper) (t : Tr) (h : List AObj) (k : Tr → List AObj → Option β) : Option β :=
  match opG F (evT t) h o.op with
  | some (r, oh) => putK r oh o.dst t h k
  | none => call0 I o t h k
noncomputable def stepK (I : Interp) (ops : Array Oper) (o : Oper) (t : Tr) (h : List AObj) (k : Tr → List AObj → Option β) : Option β :=
  match wantK ops t o with
  | none => none
  | some false => fPut t o.dst (.tup []) fun t => k t h
  | some true => doK F I o t h k
/-- The operations, in this order. -/
noncomputable def opsK (I : Interp) (ops : Array Oper) (l : List Oper) : Tr → List AObj → Option Sx :=
  List.rec (fun t h => some ⟨t, h⟩) (fun o _ ih t h => stepK F I ops o t h ih) l
noncomputable def dataK (I : Interp) (f : Option V) (args : Option (List V)) (h : List AObj) (k : List V → V → Option β) : Option β :=
  match f, args with
  | some (.fn g first caps), some vs => (match convDL (fun b => b) h (first ++ vs ++ caps) with
    | some dargs => (match I.data g dargs with
      | some r => k (first ++ vs ++ caps) r
      | none => none)
    | none => none)
  | _, _ => none
/-- What the operations write, or make. -/
noncomputable def tabStep (I : Interp) (ops : Array Oper) (o : Oper) (t : Tr) (h : List AObj) (k : Option (Nat × Bool) → Tr → List AObj → Option (List (Option (Nat × Bool)))) : Option (List (Option (Nat × Bool))) :=
  match wantK ops t o with
  | none => none
  | some false => fPut t o.dst (.tup []) fun t => k none t h
  | some true => (match opG F (evT t) h o.op with
    | some (r, oh) => putK r oh o.dst t h (k (cidE (evT t) h.length o.op))
    | none => (match callOp o.op with
      | some (x, args) => dataK I (evT t x) (evsG (evT t) args.toList) h fun _ r => fPut t o.dst r fun t => k none t h
      | none => none))
noncomputable def tabS (I : Interp) (ops : Array Oper) (l : List Oper) : Tr → List AObj → Option (List (Option (Nat × Bool))) :=
  List.rec (fun _ _ => some []) (fun o _ ih t h => tabStep F I ops o t h fun c t h => match ih t h with
    | some tb => some (c :: tb)
    | none => none) l
noncomputable def stepD (I : Interp) (ops : Array Oper) (tab : Nat → Option (Nat × Bool)) (p : Nat → Nat → Bool) (i : Nat) (o : Oper) (t : Tr) (h : List AObj) (k : Tr → List AObj → Option β) : Option β :=
  match wantK ops t o with
  | none => none
  | some false => fPut t o.dst (.tup []) fun t => k t h
  | some true => (match opG F (evT t) h o.op with
    | some (r, oh) => if (seenE (p i) (evT t) o.op && tameE (evT t) o.op && okC (cidE (evT t) h.length o.op) (tab i)) = true then putK r oh o.dst t h k else none
    | none => (match callOp o.op with
      | some (x, args) => dataK I (evT t x) (evsG (evT t) args.toList) h fun as r => if V.allL (p i) as = true then fPut t o.dst r fun t => k t h else none
      | none => none))
/-- The operations of a region that draws its order. -/
noncomputable def opsD (I : Interp) (ops : Array Oper) (tab : Nat → Option (Nat × Bool)) (p : Nat → Nat → Bool) (l : List Oper) : Nat → Tr → List AObj → Option Sx :=
  List.rec (fun _ t h => some ⟨t, h⟩) (fun o _ ih i t h => stepD F I ops tab p i o t h (ih (i + 1))) l
/-- Does one operation wait for the other at any rate? -/
def waits (ops : Array Oper) (i j : Nat) : Bool :=
  match ops[j]? with
  | some o => o.after.any fun e => e.on == i && (match e.ground with | .gcOnly _ | .textOnly _ => false | _ => true)
  | none => false
def forS (ops : Array Oper) (tb : List (Option (Nat × Bool))) (i : Nat) : List Nat :=
  (List.range ops.size).filterMap fun j => if j = i then none else match tabL tb j with
    | some (a, _) => if bkD .any ops i j || bkD .any ops j i then none else some a
    | none => none
noncomputable def drawS (I : Interp) (ops : Array Oper) (t : Tr) (h : List AObj) : Option (List (Option (Nat × Bool))) → Option Sx
  | some tb => if lexD .any ops (tabL tb) (forL ((List.range ops.size).map (forS ops tb))) ops.size 0 (Array.replicate ops.size false) = true then
        opsD F I ops (tabL tb) (forL ((List.range ops.size).map (forS ops tb))) ops.toList 0 t h else none
  | none => none
noncomputable def regS (I : Interp) (ops : Array Oper) (draw : Bool) (t : Tr) (h : List AObj) : Option Sx :=
  match draw with
  | false => opsK F I ops ops.toList t h
  | true => match quietB ops with
    | true => opsD F I ops (fun _ => none) (fun _ _ => true) ops.toList 0 t h
    | false => drawS F I ops t h (tabS F I ops ops.toList t h)
/-- Slots that lead to what is to be dropped are forgotten; then it is dropped, if nothing else leads to it. -/
def forget1 (n : Nat) (v : V) : V :=
  match v with
  | .ptr i o => if i < n then .ptr i o else .undef
  | v => v
noncomputable def forgetT {γ : Type} (Kp : Nat → Bool) (n : Nat) (t : Tr) : Nat → Nat → (Tr → γ) → γ :=
  Tr.rec (fun _ _ k => k .e) (fun v _ b k => match Kp b with
    | true => k (.lf v)
    | false => fV0 (forget1 n v) fun v => k (.lf v)) (fun _ _ fl fr s b k => fl (2 * s) b fun l => fr (2 * s) (b + s) fun r => k (.nd l r)) t
noncomputable def allT (n : Nat) (t : Tr) : Bool := Tr.rec true (fun v => v.all fun i => decide (i < n)) (fun _ _ a b => a && b) t
def lowH (n : Nat) (h : List AObj) : Bool := h.all fun o => o.all fun i => decide (i < n)
noncomputable def gcK {γ : Type} (Kp : Nat → Bool) (n : Nat) (s : Sx) (k : Sx → γ) : γ :=
  match s with
  | ⟨t, h⟩ => if h.length ≤ n then k ⟨t, h⟩ else forgetT Kp n t 1 0 fun t' => if (allT n t' && lowH n (h.take n)) = true then fH (h.take n) fun h => k ⟨t', h⟩ else k ⟨t, h⟩
/-- What is left of the heap when a call has ended. -/
noncomputable def leave (n : Nat) (r : V) (h : List AObj) : Option (V × List AObj) :=
  if n ≤ h.length then
    if (r.all (fun i => decide (i < n)) && lowH n (h.take n)) = true then fV r fun r => fH (h.take n) fun h => some (r, h)
    else if (r.all (fun i => decide (i < h.length)) && lowH h.length h) = true then fV r fun r => some (r, h) else none
  else none
def seqS (r : Option (Exit × Sx)) (k : Sx → Option (Exit × Sx)) : Option (Exit × Sx) :=
  match r with
  | some (.normal, s) => k s
  | r => r
def condS (c : Option V) (x y : Option (Exit × Sx)) : Option (Exit × Sx) :=
  match c with
  | some (.bool true) => x
  | some (.bool false) => y
  | _ => none
def blockS (id : Nat) (r : Option (Exit × Sx)) : Option (Exit × Sx) :=
  match r with
  | some (.exit j, s) => if j = id then some (.normal, s) else some (.exit j, s)
  | r => r
def scopeS (r : Option (Exit × Sx)) : Option (Exit × Sx) :=
  match r with
  | some (.goto _, _) => none
  | r => r
def regC (r : Option Sx) : Option (Exit × Sx) :=
  match r with
  | some ⟨t, h⟩ => some (.normal, ⟨t, h⟩)
  | none => none
def contS (I : Interp) (top : Bool) (b n : Nat) (t : Tr) (h : List AObj) : Option Code → Option (Exit × Sx)
  | none => some (.normal, ⟨t, h⟩)
  | some c => I.code top b n c ⟨t, h⟩
noncomputable def rangeS (I : Interp) (top : Bool) (b n : Nat) (g : Operand) (ps : Array Tmp) (as bd : Code) (t : Tr) (h : List AObj) : Option (Exit × Sx) :=
  match top with
  | false => none
  | true => match evT t g with
    | some (.fn gf first caps) => fL1 (toL t n) fun tl => match I.call gf (first ++ [.yield h.length] ++ caps) (h ++ [.loop .ready none tl ps as bd]) with
      | some (_, h1) => match h1[h.length]? with
        | some (.loop st pe tm ps' as' bd') => (match st with
          | .busy => none
          | _ => fH (h1.set h.length (.loop .exhausted pe tm ps' as' bd')) fun h => contS I top b n t h pe)
        | _ => none
      | none => none
    | _ => none
noncomputable def loopS (Kp : Nat → Bool) (I : Interp) (top : Bool) (b n : Nat) (c : Code) (ih : Sx → Option (Exit × Sx)) : Sx → Option (Exit × Sx)
  | ⟨t, h⟩ => seqS (ih ⟨t, h⟩) fun s1 => gcK Kp h.length s1 (I.code top b n (.loop c))
noncomputable def regionS (I : Interp) (ops : Array Oper) (draw : Bool) : Sx → Option (Exit × Sx)
  | ⟨t, h⟩ => regC (regS F I ops draw t h)
noncomputable def rangeK (I : Interp) (top : Bool) (b n : Nat) (g : Operand) (ps : Array Tmp) (as bd : Code) : Sx → Option (Exit × Sx)
  | ⟨t, h⟩ => rangeS I top b n g ps as bd t h
noncomputable def condK (c : Operand) (x y : Sx → Option (Exit × Sx)) (s : Sx) : Option (Exit × Sx) := condS (evT s.t c) (x s) (y s)
noncomputable def codeS (Kp : Nat → Bool) (I : Interp) (top : Bool) (b n : Nat) (c : Code) : Sx → Option (Exit × Sx) :=
  Code.rec (motive := fun _ => Sx → Option (Exit × Sx)) (fun s => some (.normal, s)) (fun _ ops draw => regionS F I ops draw) (fun _ _ x y s => seqS (x s) y) (fun c _ _ x y => condK c x y) (fun id _ x s => blockS id (x s))
    (fun c x => loopS Kp I top b n c x) (fun g ps as bd _ _ => rangeK I top b n g ps as bd) (fun id s => some (.exit id, s)) (fun _ x s => scopeS (x s)) (fun _ s => some (.normal, s)) (fun _ _ => none) (fun s => some (.ret, s)) (fun _ _ => none) c
/-- Queues that functions draw from: what they hold is read as a row that is drawn from its head. -/
noncomputable def toQ (h : List AObj) (args : List V) : List AObj :=
  match args with
  | .ptr i 0 :: _ => match h[i]? with
    | some (.box T (.arr j n :: cs)) => match h[j]? with
      | some (.arr T' sz rows false) => (h.set j (.que T' sz rows)).set i (.box T (.arrd j n 0 :: cs))
      | _ => h
    | _ => h
  | _ => h
/-- The results of a call that has ended. -/
noncomputable def resG (P : Program) (fn : Func) (t : Tr) (h : List AObj) : Option V :=
  match resL P ⟨toL t fn.ntmps, h⟩ fn.results.toList with
  | some [x] => some x
  | some xs => some (.tup xs)
  | none => none
noncomputable def bodyS (I : Interp) (fn : Func) (args : List V) (b : Nat) (h : List AObj) (k : Sx → Option β) : Option β :=
  if (decide (args.length ≤ fn.ntmps) && decide (fn.ntmps ≤ 256)) = true then
    (match fn.body with
    | some c => (match setL args 0 (mkTr fn.ntmps 8 1 0) fun t => I.code true b fn.ntmps c ⟨t, h⟩ with
      | some (.normal, s) => k s
      | some (.ret, s) => k s
      | _ => none)
    | none => none) else none
noncomputable def dataS (X : FuncId → List V → Option V) (I : Interp) (g : FuncId) (args : List V) : Option V :=
  match X g args with
  | some r => some r
  | none => match P.funcs[g]? with
    | some fn => bodyS I fn args 0 [] fun s => match resG P fn s.t s.h with
      | some r0 => (match convF s.h 4 r0 with
        | some r => fV r some
        | none => none)
      | none => none
    | none => none
noncomputable def dataC (I : Interp) (g : FuncId) : Option (List V) → Option V
  | some dargs => I.data g dargs
  | none => none
noncomputable def callS (Q : FuncId → Bool) (I : Interp) (g : FuncId) (args : List V) (h : List AObj) : Option (V × List AObj) :=
  match dataC I g (convDL (fun b => b) (frzD h args) args) with
  | some r => fH (frzD h args) fun h => some (r, h)
  | none => match P.funcs[g]? with
    | some fn => fH (if Q g = true then toQ h args else h) fun h1 => bodyS I fn args h.length h1 fun s => match resG P fn s.t s.h with
      | some r => leave h.length r s.h
      | none => none
    | none => none
noncomputable def yldS (I : Interp) (j : Nat) (vs : List V) (h : List AObj) : Option (V × List AObj) :=
  match h[j]? with
  | some (.loop .ready _ tm ps as bd) => if (vs.length == ps.size && decide (tm.length ≤ 256)) = true then (match setL (zipSet tm ps.toList vs) 0 (mkTr tm.length 8 1 0) fun t => I.code false h.length tm.length as ⟨t, h⟩ with
      | some (.normal, s1) => (match s1.h[j]? with
        | some (.loop .ready pe1 tm1 ps1 as1 bd1) => (match fH (s1.h.set j (.loop .busy pe1 tm1 ps1 as1 bd1)) fun h1 => I.code false h.length tm.length bd ⟨s1.t, h1⟩ with
          | some (x, s2) => (match roundExit x with
            | some jump => (match s2.h[j]? with
              | some (.loop .busy pe2 tm2 ps2 as2 bd2) => leave h.length (.bool jump.isNone) (s2.h.set j (.loop (if jump.isNone then .ready else .done) jump tm2 ps2 as2 bd2))
              | _ => none)
            | none => none)
          | none => none)
        | _ => none)
      | _ => none) else none
  | _ => none
noncomputable def Interp.step (Kp : Nat → Bool) (X : FuncId → List V → Option V) (Q : FuncId → Bool) (I : Interp) : Interp :=
  ⟨codeS F Kp I, dataS (P := P) X I, callS (P := P) Q I, yldS I⟩
noncomputable def Interp.run (Kp : Nat → Bool) (X : FuncId → List V → Option V) (Q : FuncId → Bool) (n : Nat) : Interp := Nat.rec Interp.bot (fun _ I => Interp.step F Kp X Q I) n
end
end Go.Ab
