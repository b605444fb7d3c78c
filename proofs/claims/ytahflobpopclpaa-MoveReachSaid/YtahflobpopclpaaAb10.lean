import Derived.Test.YtahflobpopclpaaAb9
namespace Go.Ab
open Go Go.RowKit
set_option linter.unusedVariables false

/-! ### scalar operations -/
def binInt (op : BinOp) (k : IntKind) (a b : Int) : Option V :=
  match op with
  | .add => some (.int k (k.wrap (a + b)))
  | .sub => some (.int k (k.wrap (a - b)))
  | .mul => some (.int k (k.wrap (a * b)))
  | .and => some (.int k (k.wrap (BitVec.ofInt k.bits a &&& BitVec.ofInt k.bits b).toNat))
  | .or => some (.int k (k.wrap (BitVec.ofInt k.bits a ||| BitVec.ofInt k.bits b).toNat))
  | .eql => some (.bool (a == b))
  | .neq => some (.bool (a != b))
  | .lss => some (.bool (decide (a < b)))
  | .leq => some (.bool (decide (a ≤ b)))
  | .gtr => some (.bool (decide (a > b)))
  | .geq => some (.bool (decide (a ≥ b)))
  | _ => none
def intsK : List IntKind → List V → Option (List Int)
  | [], [] => some []
  | k :: ks, .int k' n :: cs => if k = k' then (match intsK ks cs with | some l => some (n :: l) | none => none) else none
  | _, _ => none
def valsK : List IntKind → List Int → List Value
  | k :: ks, n :: ns => .int k n :: valsK ks ns
  | _, _ => []
def wideT (P : Program) (T : TypeId) : Bool :=
  match P.underlying T with
  | some (.array _ _) | some (.struct _) => true
  | _ => false
/-- What is known of a program's comparable structs of whole numbers. -/
structure Facts (P : Program) where
  eqK : TypeId → Option (List IntKind)
  eq_ok : ∀ T ks, eqK T = some ks → ∀ (as bs : List Int) (x y : Operand) (w : World), as.length = ks.length → bs.length = ks.length →
    (do eqGuard .eql T x y (.agg (valsK ks as).toArray) (.agg (valsK ks bs).toArray); binOp .eql T (.agg (valsK ks as).toArray) (.agg (valsK ks bs).toArray)).run P w = .ok (.bool (as == bs)) w
  neq_ok : ∀ T ks, eqK T = some ks → ∀ (as bs : List Int) (x y : Operand) (w : World), as.length = ks.length → bs.length = ks.length →
    (do eqGuard .neq T x y (.agg (valsK ks as).toArray) (.agg (valsK ks bs).toArray); binOp .neq T (.agg (valsK ks as).toArray) (.agg (valsK ks bs).toArray)).run P w = .ok (.bool (!(as == bs))) w
  mixed : P.follows .mixedOrders = true
  equal_ok : ∀ T ks, eqK T = some ks → ∀ (as bs : List Int) (w : World), as.length = ks.length → bs.length = ks.length → (Op.equal T (.agg (valsK ks as).toArray) (.agg (valsK ks bs).toArray)).run P w = .ok (as == bs) w
  check_ok : ∀ T ks, eqK T = some ks → ∀ (as : List Int) (e : Bool) (w : World), as.length = ks.length → (Instr.checkKey e 10000 T (.agg (valsK ks as).toArray)).run P w = .ok () w
  wide_ok : ∀ T ks, eqK T = some ks → wideT P T = true
/-- Is a slice nil, as far as one can see? -/
def isNilV : V → Option Bool
  | .nil => some true
  | .sl _ (_ :: _) => some false
  | _ => none
def binV {P : Program} (F : Facts P) (op : BinOp) (T : TypeId) (x y : V) : Option V :=
  match x, y with
  | .int k a, .int k' b => if k = k' then (match op with
      | .shl => if 0 ≤ b then some (.int k (k.wrap (a * 2 ^ (min b.toNat k.bits)))) else none
      | .shr => if 0 ≤ b then some (.int k (a.fdiv (2 ^ (min b.toNat k.bits)))) else none
      | op => binInt op k a b) else none
  | .agg cs, .agg ds => match F.eqK T with
    | some ks => match intsK ks cs, intsK ks ds with
      | some as, some bs => (match op with
        | .eql => some (.bool (as == bs))
        | .neq => some (.bool (!(as == bs)))
        | _ => none)
      | _, _ => none
    | none => none
  | .bool a, .bool b => match P.underlying T with
    | some .bool => (match op with
      | .eql => some (.bool (a == b))
      | .neq => some (.bool (!(a == b)))
      | _ => none)
    | _ => none
  | x, .nil => match P.underlying T, isNilV x with
    | some (.slice _), some b => (match op with
      | .eql => some (.bool b)
      | .neq => some (.bool (!b))
      | _ => none)
    | _, _ => none
  | _, _ => none
theorem RelL.intsK {E : Env} : ∀ {ks : List IntKind} {cs : List V} {vs : List Value} {as : List Int}, RelL E cs vs → intsK ks cs = some as → vs = valsK ks as ∧ as.length = ks.length
  | [], [], vs, as, h, hi => by
    simp only [Ab.intsK, Option.some.injEq] at hi; subst hi
    simp only [RelL] at h; subst h
    exact ⟨rfl, rfl⟩
  | k :: ks, .int k' n :: cs, vs, as, h, hi => by
    simp only [Ab.intsK] at hi
    split at hi
    · rename_i hk; subst hk
      split at hi
      · rename_i l hl
        simp only [Option.some.injEq] at hi; subst hi
        simp only [RelL, Rel] at h
        obtain ⟨u, us, rfl, rfl, h2⟩ := h
        obtain ⟨h3, h4⟩ := RelL.intsK h2 hl
        exact ⟨by simp [valsK, h3], by simp [h4]⟩
      · cases hi
    · cases hi
  | [], c :: cs, _, _, _, hi => by simp [Ab.intsK] at hi
  | k :: ks, [], _, _, _, hi => by simp [Ab.intsK] at hi
  | k :: ks, .bool _ :: _, _, _, _, hi | k :: ks, .str _ :: _, _, _, _, hi | k :: ks, .nil :: _, _, _, _, hi | k :: ks, .sl _ _ :: _, _, _, _, hi | k :: ks, .agg _ :: _, _, _, _, hi | k :: ks, .tup _ :: _, _, _, _, hi
  | k :: ks, .ro _ :: _, _, _, _, hi | k :: ks, .ptr _ _ :: _, _, _, _, hi | k :: ks, .nilptr :: _, _, _, _, hi | k :: ks, .arr _ _ :: _, _, _, _, hi | k :: ks, .arrd _ _ _ :: _, _, _, _, hi | k :: ks, .qptr _ _ _ _ :: _, _, _, _, hi | k :: ks, .aptr _ _ _ _ :: _, _, _, _, hi | k :: ks, .fn _ _ _ :: _, _, _, _, hi
  | k :: ks, .yield _ :: _, _, _, _, hi | k :: ks, .nilfn :: _, _, _, _, hi | k :: ks, .nilif :: _, _, _, _, hi | k :: ks, .iface _ _ :: _, _, _, _, hi | k :: ks, .map _ :: _, _, _, _, hi | k :: ks, .undef :: _, _, _, _, hi => by simp [Ab.intsK] at hi
theorem binInt_sound {P : Program} {E : Env} {op : BinOp} {T : TypeId} {k : IntKind} {a b : Int} {z : V} (h : binInt op k a b = some z) : ∃ u, Rel E z u ∧ ∀ w, (binOp op T (.int k a) (.int k b)).run P w = .ok u w := by
  cases op <;> simp only [binInt, Option.some.injEq, reduceCtorEq] at h <;> subst h <;> exact ⟨_, by simp only [Rel]; rfl, fun w => by simp [binOp, Op.intArith, Op.intCmp, Op.intBits]⟩
theorem run_equal_bool {P : Program} {T : TypeId} (hu : P.underlying T = some .bool) (a b : Bool) (w : World) : (Op.equal T (.bool a) (.bool b)).run P w = .ok (a == b) w := by
  unfold Op.equal
  rw [show Op.maxDepth = 9999 + 1 from rfl, Op.equalIn]
  simp only [Sem.run_bind, run_underlying hu, Result.andThen_ok, Sem.run_pure]
theorem run_equal_nil {P : Program} {T E : TypeId} (hu : P.underlying T = some (.slice E)) (A : Option Addr) (n c : Nat) (w : World) : (Op.equal T (.slice A n c) (.slice none 0 0)).run P w = .ok A.isNone w := by
  unfold Op.equal
  rw [show Op.maxDepth = 9999 + 1 from rfl, Op.equalIn]
  cases A <;> simp only [Sem.run_bind, run_underlying hu, Result.andThen_ok, Sem.run_pure] <;> rfl
theorem binV_sound {P : Program} {F : Facts P} {E : Env} {w : World} {op : BinOp} {T : TypeId} {x y z : V} {ux uy : Value} (hx : Rel E x ux) (hy : Rel E y uy) (ox oy : Operand) (h : binV F op T x y = some z) :
    ∃ u, (do eqGuard op T ox oy ux uy; binOp op T ux uy).run P w = .ok u w ∧ Rel E z u := by
  unfold binV at h
  split at h
  · rename_i k a k' b
    split at h
    · rename_i hk; subst hk
      simp only [Rel] at hx hy; subst hx; subst hy
      have hg : eqGuard op T ox oy (.int k a) (.int k b) = pure () := by cases op <;> rfl
      rw [hg]
      split at h
      · split at h
        · rename_i h0
          simp only [Option.some.injEq] at h; subst h
          exact ⟨.int k (k.wrap (a * 2 ^ min b.toNat k.bits)), by simp [binOp, Op.shift, show ¬ b < 0 by omega], by simp only [Rel]⟩
        · cases h
      · split at h
        · rename_i h0
          simp only [Option.some.injEq] at h; subst h
          exact ⟨.int k (a.fdiv (2 ^ min b.toNat k.bits)), by simp [binOp, Op.shift, show ¬ b < 0 by omega], by simp only [Rel]⟩
        · cases h
      · rename_i h1 h2
        obtain ⟨u, hr, hrun⟩ := binInt_sound (P := P) (E := E) (T := T) h
        exact ⟨u, by simpa using hrun w, hr⟩
    · cases h
  · rename_i cs ds
    split at h
    · rename_i ks hks
      split at h
      · rename_i as bs ha hb
        simp only [Rel] at hx hy
        obtain ⟨vs, rfl, hR⟩ := hx
        obtain ⟨us, rfl, hR'⟩ := hy
        obtain ⟨h1, h2⟩ := RelL.intsK hR ha
        obtain ⟨h3, h4⟩ := RelL.intsK hR' hb
        have e1 : vs = (valsK ks as).toArray := by rw [← h1]
        have e2 : us = (valsK ks bs).toArray := by rw [← h3]
        subst e1; subst e2
        split at h
        · simp only [Option.some.injEq] at h; subst h
          exact ⟨_, F.eq_ok T ks hks as bs ox oy w h2 h4, by simp only [Rel]⟩
        · simp only [Option.some.injEq] at h; subst h
          exact ⟨_, F.neq_ok T ks hks as bs ox oy w h2 h4, by simp only [Rel]⟩
        · cases h
      · cases h
    · cases h
  · rename_i a b
    split at h
    · rename_i hu
      simp only [Rel] at hx hy; subst hx; subst hy
      split at h
      · simp only [Option.some.injEq] at h; subst h
        exact ⟨.bool (a == b), by simp [eqGuard, binOp, run_equal_bool hu], by simp only [Rel]⟩
      · simp only [Option.some.injEq] at h; subst h
        exact ⟨.bool (!(a == b)), by simp [eqGuard, binOp, run_equal_bool hu], by simp only [Rel]⟩
      · cases h
    · cases h
  · rename_i x' hx2
    split at h
    · rename_i e b hu hn
      simp only [Rel] at hy; subst hy
      have hsl : ∃ A n c, ux = .slice A n c ∧ A.isNone = b := by
        unfold isNilV at hn
        split at hn
        · simp only [Option.some.injEq] at hn; subst hn
          simp only [Rel] at hx
          exact ⟨none, 0, 0, hx, rfl⟩
        · simp only [Option.some.injEq] at hn; subst hn
          simp only [Rel] at hx
          obtain ⟨A, c, rfl, _, hx⟩ := hx
          rcases hx with hx | ⟨ad, rfl, _⟩
          · cases hx
          · exact ⟨_, _, _, rfl, rfl⟩
        · cases hn
      obtain ⟨A, n, c, rfl, rfl⟩ := hsl
      split at h
      · simp only [Option.some.injEq] at h; subst h
        exact ⟨.bool A.isNone, by simp [eqGuard, binOp, run_equal_nil hu], by simp only [Rel]⟩
      · simp only [Option.some.injEq] at h; subst h
        exact ⟨.bool (!A.isNone), by simp [eqGuard, binOp, run_equal_nil hu], by simp only [Rel]⟩
      · cases h
    · cases h
  · cases h
end Go.Ab
