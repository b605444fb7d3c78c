import Derived.Below
import Derived.WalkKit
import Derived.OwnWalk
import Derived.Laws.CopyRow
import Derived.Laws.Rows
import Derived.Laws.Cells
import Derived.Maps.AppendAt
import Derived.Laws.OwnMore
import Derived.Laws.MakeOwn
import Derived.Laws.Tables
import Derived.Deep.OwnRows
import Derived.ArgAppend
import Derived.CallsIn
import Derived.RangeFuncRecord
set_option linter.unusedVariables false
set_option linter.unusedSimpArgs false
/- An abstract reading of the machine's values: what a value says as plain data, whatever the addresses are. -/
namespace Go.Ab
open Go Go.RowKit
set_option linter.unusedVariables false

/-- A value, read. -/
inductive V where
  | bool (b : Bool) | int (k : IntKind) (n : Int) | str (s : ByteArray)
  | nil
  | sl (sz : Nat) (rows : List (List V))
  | agg (cs : List V) | tup (cs : List V)
  | ro (cs : List V)
  | ptr (i off : Nat) | nilptr
  | arr (i n : Nat) | aptr (i n r off : Nat)
  | arrd (i n k : Nat) | qptr (i n r off : Nat)
  | fn (f : FuncId) (first caps : List V) | yield (l : Nat)
  | nilfn | nilif | iface (t : TypeId) (v : V)
  | map (i : Nat)
  | undef

/-- What the abstract heap holds. -/
inductive AObj where
  | box (T : TypeId) (cs : List V)
  | arr (T sz : Nat) (rows : List (List V)) (frozen : Bool)
  | map (es : List (V × V))
  | que (T sz : Nat) (rows : List (List V))
  | loop (st : LoopState) (pe : Option Code) (t : List V) (ps : Array Tmp) (asg bd : Code)
  | dead

structure Env where
  bad : Nat → Prop
  m : List Value
  h : List AObj
  w : World

mutual
def Rel (E : Env) : V → Value → Prop
  | .bool b, v => v = .bool b
  | .int k n, v => v = .int k n
  | .str s, v => v = .string s
  | .nil, v => v = .slice none 0 0
  | .sl sz rows, v => ∃ A c, v = .slice A rows.length c ∧ (rows.length ≤ c ∧ rows.length ≤ 9223372036854775807) ∧ (rows = [] ∨ ∃ ad, A = some ad ∧ ¬ E.bad ad.block ∧ ad.block < E.w.heap.size ∧ RelRows E ad sz 0 rows)
  | .agg cs, v => ∃ vs, v = .agg vs ∧ RelL E cs vs.toList
  | .tup cs, v => ∃ vs, v = .tuple vs ∧ RelL E cs vs.toList
  | .ro cs, v => ∃ ad, v = .pointer (some ad) ∧ ¬ E.bad ad.block ∧ ad.block < E.w.heap.size ∧ RelCells E ad 0 cs
  | .ptr i off, v => ∃ b, E.m[i]? = some (.pointer (some ⟨b, 0, none⟩)) ∧ v = .pointer (some ⟨b, off, none⟩)
  | .nilptr, v => v = .pointer none
  | .arr i n, v => i < E.h.length ∧ ∀ T sz rows fr, E.h[i]? = some (.arr T sz rows fr) → n ≤ rows.length ∧ (n = rows.length → E.m[i]? = some v)
  | .aptr i n r off, v => i < E.h.length ∧ ∀ T sz rows fr, E.h[i]? = some (.arr T sz rows fr) → n ≤ rows.length ∧ (n = rows.length → ∃ g cap, E.m[i]? = some (.slice (some ⟨g, 0, none⟩) n cap) ∧ v = .pointer (some ⟨g, r * sz + off, none⟩))
  | .fn f first caps, v => ∃ a b, v = .func (.func f) a b ∧ RelL E first a.toList ∧ RelL E caps b.toList
  | .arrd i n k, v => ∃ T sz rows, E.h[i]? = some (.que T sz rows) ∧ n ≤ rows.length ∧ (n = rows.length → ∃ A c j, E.m[i]? = some (.slice A (n - j) c) ∧ j ≤ k ∧ k ≤ n ∧ n - j ≤ c ∧
      ∃ A', v = .slice A' (n - k) (c - (k - j)) ∧ (c = k - j ∨ ∃ g, A = some ⟨g, 0, none⟩ ∧ A' = some ⟨g, (k - j) * sz, none⟩))
  | .qptr i n r off, v => ∃ T sz rows, E.h[i]? = some (.que T sz rows) ∧ n ≤ rows.length ∧ (n = rows.length → ∃ g c j, E.m[i]? = some (.slice (some ⟨g, 0, none⟩) (n - j) c) ∧ j ≤ r ∧ r < n ∧ v = .pointer (some ⟨g, (r - j) * sz + off, none⟩))
  | .yield i, v => ∃ b, E.m[i]? = some (.func (.yield b) #[] #[]) ∧ v = .func (.yield b) #[] #[]
  | .nilfn, v => v = .nilFunc
  | .nilif, v => v = .nilIface
  | .iface t x, v => ∃ u, v = .iface t u ∧ Rel E x u
  | .map i, v => ∃ b, E.m[i]? = some (.map (some b)) ∧ v = .map (some b)
  | .undef, _ => True
def RelL (E : Env) : List V → List Value → Prop
  | [], vs => vs = []
  | c :: cs, vs => ∃ u us, vs = u :: us ∧ Rel E c u ∧ RelL E cs us
def RelCells (E : Env) (ad : Addr) (k : Nat) : List V → Prop
  | [] => True
  | c :: cs => (∃ u, E.w.cell? (ad.add k) = some u ∧ Rel E c u) ∧ RelCells E ad (k + 1) cs
def RelRows (E : Env) (ad : Addr) (sz : Nat) (k : Nat) : List (List V) → Prop
  | [] => True
  | r :: rs => r.length = sz ∧ RelCells E ad k r ∧ RelRows E ad sz (k + sz) rs
end

mutual
/-- All references in a value satisfy p. -/
def V.all (p : Nat → Bool) : V → Bool
  | .bool _ | .int _ _ | .str _ | .nil | .nilptr | .nilfn | .nilif | .undef => true
  | .sl _ rows => V.allR p rows
  | .agg cs | .tup cs | .ro cs => V.allL p cs
  | .ptr i _ | .arr i _ | .aptr i _ _ _ | .map i | .arrd i _ _ | .qptr i _ _ _ | .yield i => p i
  | .fn _ a b => V.allL p a && V.allL p b
  | .iface _ v => v.all p
def V.allL (p : Nat → Bool) : List V → Bool
  | [] => true
  | c :: cs => c.all p && V.allL p cs
def V.allR (p : Nat → Bool) : List (List V) → Bool
  | [] => true
  | r :: rs => V.allL p r && V.allR p rs
end
theorem cell_same {w w' : World} {a : Addr} (h : w'.heap[a.block]? = w.heap[a.block]?) : w'.cell? a = w.cell? a := by
  unfold World.cell?; rw [h]
/-- What is known of a later state, for the references that p lets by: of cells alone. -/
structure Env.LeC (p : Nat → Bool) (E E' : Env) : Prop where
  nb : ∀ b, b < E.w.heap.size → E'.bad b → E.bad b
  ck : ∀ ad u, ad.block < E.w.heap.size → ¬ E.bad ad.block → E.w.cell? ad = some u → E'.w.cell? ad = some u
  sz : E.w.heap.size ≤ E'.w.heap.size
  mp : ∀ i, p i = true → ∀ v, E.m[i]? = some v → (∀ A n c, v ≠ .slice A n c) → E'.m[i]? = some v
  ma : ∀ i, p i = true → i < E.h.length → i < E'.h.length ∧ ∀ T sz rows fr, E'.h[i]? = some (.arr T sz rows fr) →
    ∃ T0 rows0 fr0, E.h[i]? = some (.arr T0 sz rows0 fr0) ∧ rows0.length ≤ rows.length ∧ (rows0.length = rows.length → E'.m[i]? = E.m[i]?)
  mq : ∀ i, p i = true → ∀ T sz rows, E.h[i]? = some (.que T sz rows) → ∃ rows', E'.h[i]? = some (.que T sz rows') ∧ rows.length ≤ rows'.length ∧ (rows.length = rows'.length → E'.m[i]? = E.m[i]?)
/-- What is known of a later state, for the references that p lets by. -/
structure Env.Le (p : Nat → Bool) (E E' : Env) : Prop where
  nb : ∀ b, b < E.w.heap.size → E'.bad b → E.bad b
  wk : ∀ b, b < E.w.heap.size → ¬ E.bad b → E'.w.heap[b]? = E.w.heap[b]?
  sz : E.w.heap.size ≤ E'.w.heap.size
  mp : ∀ i, p i = true → ∀ v, E.m[i]? = some v → (∀ A n c, v ≠ .slice A n c) → E'.m[i]? = some v
  ma : ∀ i, p i = true → i < E.h.length → i < E'.h.length ∧ ∀ T sz rows fr, E'.h[i]? = some (.arr T sz rows fr) →
    ∃ T0 rows0 fr0, E.h[i]? = some (.arr T0 sz rows0 fr0) ∧ rows0.length ≤ rows.length ∧ (rows0.length = rows.length → E'.m[i]? = E.m[i]?)
  mq : ∀ i, p i = true → ∀ T sz rows, E.h[i]? = some (.que T sz rows) → ∃ rows', E'.h[i]? = some (.que T sz rows') ∧ rows.length ≤ rows'.length ∧ (rows.length = rows'.length → E'.m[i]? = E.m[i]?)
theorem Env.Le.c {p : Nat → Bool} {E E' : Env} (L : Env.Le p E E') : Env.LeC p E E' :=
  ⟨L.nb, fun ad u hlt hn hc => by rw [← hc]; exact cell_same (L.wk _ hlt hn), L.sz, L.mp, L.ma, L.mq⟩
theorem add_block (ad : Addr) (k : Nat) : (ad.add k).block = ad.block := by unfold Addr.add; split <;> rfl
mutual
theorem Rel.monoC {p : Nat → Bool} {E E' : Env} (L : Env.LeC p E E') : ∀ (x : V) (v : Value), x.all p = true → Rel E x v → Rel E' x v
  | .bool _, _, _, h | .int _ _, _, _, h | .str _, _, _, h | .nil, _, _, h | .nilptr, _, _, h | .nilfn, _, _, h | .nilif, _, _, h => by
    simpa only [Rel] using h
  | .undef, _, _, _ => by simp only [Rel]
  | .sl sz rows, v, ha, h => by
    simp only [Rel, V.all] at *
    obtain ⟨A, c, rfl, hl, hr⟩ := h
    refine ⟨A, c, rfl, hl, ?_⟩
    rcases hr with rfl | ⟨ad, rfl, hb, hlt, hR⟩
    · exact .inl rfl
    · exact .inr ⟨ad, rfl, fun hb' => hb (L.nb _ hlt hb'), Nat.lt_of_lt_of_le hlt L.sz, RelRows.monoC L rows ad sz 0 ha hb hlt hR⟩
  | .agg cs, v, ha, h => by
    simp only [Rel, V.all] at *
    obtain ⟨vs, rfl, hR⟩ := h
    exact ⟨vs, rfl, RelL.monoC L cs _ ha hR⟩
  | .tup cs, v, ha, h => by
    simp only [Rel, V.all] at *
    obtain ⟨vs, rfl, hR⟩ := h
    exact ⟨vs, rfl, RelL.monoC L cs _ ha hR⟩
  | .ro cs, v, ha, h => by
    simp only [Rel, V.all] at *
    obtain ⟨ad, rfl, hb, hlt, hR⟩ := h
    exact ⟨ad, rfl, fun hb' => hb (L.nb _ hlt hb'), Nat.lt_of_lt_of_le hlt L.sz, RelCells.monoC L cs ad 0 ha hb hlt hR⟩
  | .ptr i off, v, ha, h => by
    simp only [Rel, V.all] at *
    obtain ⟨b, hm, rfl⟩ := h
    exact ⟨b, L.mp i ha _ hm (by simp), rfl⟩
  | .arr i n, v, ha, h => by
    simp only [Rel, V.all] at *
    obtain ⟨hl, h⟩ := h
    obtain ⟨hl', hm⟩ := L.ma i ha hl
    refine ⟨hl', fun T sz rows fr ho => ?_⟩
    obtain ⟨T0, rows0, fr0, h0, hle, hs⟩ := hm T sz rows fr ho
    obtain ⟨h1, h2⟩ := h T0 sz rows0 fr0 h0
    refine ⟨by omega, fun hn => ?_⟩
    have he : rows0.length = rows.length := by omega
    rw [hs he]; exact h2 (by omega)
  | .aptr i n r off, v, ha, h => by
    simp only [Rel, V.all] at *
    obtain ⟨hl, h⟩ := h
    obtain ⟨hl', hm⟩ := L.ma i ha hl
    refine ⟨hl', fun T sz rows fr ho => ?_⟩
    obtain ⟨T0, rows0, fr0, h0, hle, hs⟩ := hm T sz rows fr ho
    obtain ⟨h1, h2⟩ := h T0 sz rows0 fr0 h0
    refine ⟨by omega, fun hn => ?_⟩
    have he : rows0.length = rows.length := by omega
    rw [hs he]; exact h2 (by omega)
  | .arrd i n k, v, ha, h => by
    simp only [Rel, V.all] at *
    obtain ⟨T, sz, rows, ho, hle, h⟩ := h
    obtain ⟨rows', ho', hle', hm⟩ := L.mq i ha T sz rows ho
    refine ⟨T, sz, rows', ho', by omega, fun hn => ?_⟩
    have he : rows.length = rows'.length := by omega
    rw [hm he]; exact h (by omega)
  | .qptr i n r off, v, ha, h => by
    simp only [Rel, V.all] at *
    obtain ⟨T, sz, rows, ho, hle, h⟩ := h
    obtain ⟨rows', ho', hle', hm⟩ := L.mq i ha T sz rows ho
    refine ⟨T, sz, rows', ho', by omega, fun hn => ?_⟩
    have he : rows.length = rows'.length := by omega
    rw [hm he]; exact h (by omega)
  | .yield i, v, ha, h => by
    simp only [Rel, V.all] at *
    obtain ⟨b, hm, rfl⟩ := h
    exact ⟨b, L.mp i ha _ hm (by simp), rfl⟩
  | .fn f a b, v, ha, h => by
    simp only [Rel, V.all, Bool.and_eq_true] at *
    obtain ⟨x, y, rfl, h1, h2⟩ := h
    exact ⟨x, y, rfl, RelL.monoC L a _ ha.1 h1, RelL.monoC L b _ ha.2 h2⟩
  | .iface t x, v, ha, h => by
    simp only [Rel, V.all] at *
    obtain ⟨u, rfl, h1⟩ := h
    exact ⟨u, rfl, Rel.monoC L x u ha h1⟩
  | .map i, v, ha, h => by
    simp only [Rel, V.all] at *
    obtain ⟨b, hm, rfl⟩ := h
    exact ⟨b, L.mp i ha _ hm (by simp), rfl⟩
theorem RelL.monoC {p : Nat → Bool} {E E' : Env} (L : Env.LeC p E E') : ∀ (xs : List V) (vs : List Value), V.allL p xs = true → RelL E xs vs → RelL E' xs vs
  | [], vs, _, h => by simpa only [RelL] using h
  | c :: cs, vs, ha, h => by
    simp only [RelL, V.allL, Bool.and_eq_true] at *
    obtain ⟨u, us, rfl, h1, h2⟩ := h
    exact ⟨u, us, rfl, Rel.monoC L c u ha.1 h1, RelL.monoC L cs us ha.2 h2⟩
theorem RelCells.monoC {p : Nat → Bool} {E E' : Env} (L : Env.LeC p E E') : ∀ (xs : List V) (ad : Addr) (k : Nat), V.allL p xs = true → ¬ E.bad ad.block → ad.block < E.w.heap.size → RelCells E ad k xs → RelCells E' ad k xs
  | [], _, _, _, _, _, _ => by simp only [RelCells]
  | c :: cs, ad, k, ha, hb, hlt, h => by
    simp only [RelCells, V.allL, Bool.and_eq_true] at *
    obtain ⟨⟨u, hc, h1⟩, h2⟩ := h
    exact ⟨⟨u, L.ck _ u (by rwa [add_block]) (by rwa [add_block]) hc, Rel.monoC L c u ha.1 h1⟩, RelCells.monoC L cs ad (k + 1) ha.2 hb hlt h2⟩
theorem RelRows.monoC {p : Nat → Bool} {E E' : Env} (L : Env.LeC p E E') : ∀ (xs : List (List V)) (ad : Addr) (sz k : Nat), V.allR p xs = true → ¬ E.bad ad.block → ad.block < E.w.heap.size → RelRows E ad sz k xs → RelRows E' ad sz k xs
  | [], _, _, _, _, _, _, _ => by simp only [RelRows]
  | r :: rs, ad, sz, k, ha, hb, hlt, h => by
    simp only [RelRows, V.allR, Bool.and_eq_true] at *
    exact ⟨h.1, RelCells.monoC L r ad k ha.1 hb hlt h.2.1, RelRows.monoC L rs ad sz (k + sz) ha.2 hb hlt h.2.2⟩
end

theorem Rel.mono {p : Nat → Bool} {E E' : Env} (L : Env.Le p E E') (x : V) (v : Value) (h1 : x.all p = true) (h2 : Rel E x v) : Rel E' x v := Rel.monoC L.c x v h1 h2
theorem RelL.mono {p : Nat → Bool} {E E' : Env} (L : Env.Le p E E') (xs : List V) (vs : List Value) (h1 : V.allL p xs = true) (h2 : RelL E xs vs) : RelL E' xs vs := RelL.monoC L.c xs vs h1 h2
theorem RelRows.mono {p : Nat → Bool} {E E' : Env} (L : Env.Le p E E') (xs : List (List V)) (ad : Addr) (sz k : Nat) (h1 : V.allR p xs = true) (h2 : ¬ E.bad ad.block) (h3 : ad.block < E.w.heap.size) (h4 : RelRows E ad sz k xs) : RelRows E' ad sz k xs := RelRows.monoC L.c xs ad sz k h1 h2 h3 h4

mutual
theorem V.all_true : ∀ (x : V), x.all (fun _ => true) = true
  | .bool _ | .int _ _ | .str _ | .nil | .nilptr | .nilfn | .nilif | .undef => by simp only [V.all]
  | .sl _ rows => by simp only [V.all]; exact V.allR_true rows
  | .agg cs | .tup cs | .ro cs => by simp only [V.all]; exact V.allL_true cs
  | .ptr _ _ | .arr _ _ | .aptr _ _ _ _ | .map _ | .arrd _ _ _ | .qptr _ _ _ _ | .yield _ => by simp only [V.all]
  | .fn _ a b => by simp only [V.all, V.allL_true a, V.allL_true b, Bool.and_self]
  | .iface _ v => by simp only [V.all]; exact V.all_true v
theorem V.allL_true : ∀ (xs : List V), V.allL (fun _ => true) xs = true
  | [] => by simp only [V.allL]
  | c :: cs => by simp only [V.allL, V.all_true c, V.allL_true cs, Bool.and_self]
theorem V.allR_true : ∀ (xs : List (List V)), V.allR (fun _ => true) xs = true
  | [] => by simp only [V.allR]
  | c :: cs => by simp only [V.allR, V.allL_true c, V.allR_true cs, Bool.and_self]
end
mutual
theorem V.all_imp {p q : Nat → Bool} (hpq : ∀ i, p i = true → q i = true) : ∀ (x : V), x.all p = true → x.all q = true
  | .bool _, _ | .int _ _, _ | .str _, _ | .nil, _ | .nilptr, _ | .nilfn, _ | .nilif, _ | .undef, _ => by simp only [V.all]
  | .sl _ rows, h => by simp only [V.all] at *; exact V.allR_imp hpq rows h
  | .agg cs, h | .tup cs, h | .ro cs, h => by simp only [V.all] at *; exact V.allL_imp hpq cs h
  | .ptr _ _, h | .arr _ _, h | .aptr _ _ _ _, h | .map _, h | .arrd _ _ _, h | .qptr _ _ _ _, h | .yield _, h => by simp only [V.all] at *; exact hpq _ h
  | .fn _ a b, h => by simp only [V.all, Bool.and_eq_true] at *; exact ⟨V.allL_imp hpq a h.1, V.allL_imp hpq b h.2⟩
  | .iface _ v, h => by simp only [V.all] at *; exact V.all_imp hpq v h
theorem V.allL_imp {p q : Nat → Bool} (hpq : ∀ i, p i = true → q i = true) : ∀ (xs : List V), V.allL p xs = true → V.allL q xs = true
  | [], _ => by simp only [V.allL]
  | c :: cs, h => by simp only [V.allL, Bool.and_eq_true] at *; exact ⟨V.all_imp hpq c h.1, V.allL_imp hpq cs h.2⟩
theorem V.allR_imp {p q : Nat → Bool} (hpq : ∀ i, p i = true → q i = true) : ∀ (xs : List (List V)), V.allR p xs = true → V.allR q xs = true
  | [], _ => by simp only [V.allR]
  | c :: cs, h => by simp only [V.allR, Bool.and_eq_true] at *; exact ⟨V.allL_imp hpq c h.1, V.allR_imp hpq cs h.2⟩
end
end Go.Ab
namespace Go.Ab
open Go Go.RowKit
set_option linter.unusedVariables false

structure St where
  t : List V
  h : List AObj
structure Ctx where
  out : Nat → Prop
  w0 : World
  at0 : Nat
  base : List Deferred
def AObj.live : AObj → Bool
  | .box _ _ | .map _ | .que _ _ _ | .loop .. => true
  | .arr _ _ _ fr => !fr
  | .dead => false
def blk : Value → Option Nat
  | .pointer (some a) => some a.block
  | .slice (some a) _ _ => some a.block
  | .map r => r
  | .func (.yield b) _ _ => some b
  | _ => none
def env (C : Ctx) (h : List AObj) (m : List Value) (w : World) : Env :=
  { bad := fun b => C.out b ∨ ∃ (i : Nat) (o : AObj) (v : Value), h[i]? = some o ∧ o.live = true ∧ m[i]? = some v ∧ blk v = some b, m, h, w }
def RelObj (C : Ctx) (E : Env) (v : Value) : AObj → Prop
  | .box T cs => ∃ b vs, v = .pointer (some ⟨b, 0, none⟩) ∧ C.w0.heap.size ≤ b ∧ E.w.heap[b]? = some (.cells vs T (0, 0)) ∧ RelL E cs vs.toList
  | .arr T sz rows fr => ∃ us, E.w.ownsRow C.w0.heap.size T sz v rows.length us ∧ RelL E rows.flatten us ∧ (∀ r ∈ rows, r.length = sz)
  | .map es => ∃ b clock es', v = .map (some b) ∧ C.w0.heap.size ≤ b ∧ E.w.heap[b]? = some (.map es' clock) ∧ RelL E (es.map (·.1)) (es'.toList.map (·.key)) ∧ RelL E (es.map (·.2)) (es'.toList.map (·.val))
  | .que T sz rows => ∃ us j, j ≤ rows.length ∧ E.w.ownsRow C.w0.heap.size T sz v (rows.length - j) us ∧ RelL E (rows.drop j).flatten us ∧ (∀ r ∈ rows, r.length = sz)
  | .loop st pe t ps asg bd => ∃ b fn us df, v = .func (.yield b) #[] #[] ∧ C.w0.heap.size ≤ b ∧ E.w.heap[b]? = some (.loop { state := st, pending := pe, fn, tmps := us, params := ps, assign := asg, body := bd, defers := df }) ∧ RelL E t us.toList
  | .dead => True
/-- The calls that this activation has put off: the marks of its loops over functions, with nothing behind them. -/
def Mark (C : Ctx) (E : Env) (d : Deferred) : Prop := ∃ b, d = { target := .collected b, args := #[] } ∧ C.at0 ≤ b ∧ b < E.w.heap.size ∧ ¬ E.bad b ∧ E.w.heap[b]? = some (.deferred (some []))
def Marks (C : Ctx) (E : Env) (ds : List Deferred) : Prop :=
  (C.w0.heap.size ≤ C.at0 ∧ C.at0 ≤ E.w.heap.size) ∧ ∃ ms, ds = ms ++ C.base ∧ (∀ d ∈ ms, Mark C E d) ∧ ms.Pairwise (fun x y => x.target ≠ y.target)
theorem Mark.le {C : Ctx} {p : Nat → Bool} {E E' : Env} {d : Deferred} (L : Env.Le p E E') (h : Mark C E d) : Mark C E' d := by
  obtain ⟨b, h1, h2, h3, h4, h5⟩ := h
  exact ⟨b, h1, h2, Nat.lt_of_lt_of_le h3 L.sz, fun hb => h4 (L.nb b h3 hb), (L.wk b h3 h4).trans h5⟩
theorem Marks.le {C : Ctx} {p : Nat → Bool} {E E' : Env} {ds : List Deferred} (L : Env.Le p E E') (h : Marks C E ds) : Marks C E' ds := by
  obtain ⟨h1, ms, h2, h3, h4⟩ := h
  exact ⟨⟨h1.1, Nat.le_trans h1.2 L.sz⟩, ms, h2, fun d hd => (h3 d hd).le L, h4⟩
theorem Marks.nil {C : Ctx} {E : Env} (h1 : C.w0.heap.size ≤ C.at0) (h2 : C.at0 ≤ E.w.heap.size) : Marks C E C.base := ⟨⟨h1, h2⟩, [], rfl, fun d hd => by simp at hd, List.Pairwise.nil⟩
structure Sim (C : Ctx) (s : St) (m : List Value) (a : Act) (w : World) : Prop where
  below : Below C.w0.heap.size C.w0 w
  out : ∀ b, C.out b → b < C.w0.heap.size
  len : m.length = s.h.length
  slots : RelL (env C s.h m w) s.t a.tmps.toList
  defers : Marks C (env C s.h m w) a.defers
  objs : ∀ (i : Nat) o v, s.h[i]? = some o → m[i]? = some v → RelObj C (env C s.h m w) v o
  apart : ∀ (i j : Nat) v u b, i ≠ j → m[i]? = some v → m[j]? = some u → blk v = some b → blk u ≠ some b
  low : ∀ (i : Nat) v b, m[i]? = some v → blk v = some b → C.w0.heap.size ≤ b ∧ b < w.heap.size

theorem RelL.length {E : Env} : ∀ {xs : List V} {vs : List Value}, RelL E xs vs → xs.length = vs.length
  | [], vs, h => by simp only [RelL] at h; simp [h]
  | c :: cs, vs, h => by
    simp only [RelL] at h
    obtain ⟨u, us, rfl, _, h2⟩ := h
    simp [RelL.length h2]
theorem RelL.get {E : Env} : ∀ {xs : List V} {vs : List Value} (k : Nat) {x : V}, RelL E xs vs → xs[k]? = some x → ∃ u, vs[k]? = some u ∧ Rel E x u
  | [], vs, k, x, h, hx => by simp at hx
  | c :: cs, vs, k, x, h, hx => by
    simp only [RelL] at h
    obtain ⟨u, us, rfl, h1, h2⟩ := h
    cases k with
    | zero => simp at hx; subst hx; exact ⟨u, by simp, h1⟩
    | succ k => simp at hx; obtain ⟨u', hu, hr⟩ := RelL.get k h2 hx; exact ⟨u', by simpa using hu, hr⟩
theorem RelL.set {E : Env} : ∀ {xs : List V} {vs : List Value} (k : Nat) {x : V} {u : Value}, RelL E xs vs → Rel E x u → RelL E (xs.set k x) (vs.set k u)
  | [], vs, k, x, u, h, hx => by simp only [RelL] at h; subst h; simp [RelL]
  | c :: cs, vs, k, x, u, h, hx => by
    simp only [RelL] at h
    obtain ⟨u', us, rfl, h1, h2⟩ := h
    cases k with
    | zero => simp only [List.set_cons_zero, RelL]; exact ⟨u, us, rfl, hx, h2⟩
    | succ k => simp only [List.set_cons_succ, RelL]; exact ⟨u', _, rfl, h1, RelL.set k h2 hx⟩
theorem RelL.append {E : Env} : ∀ {xs ys : List V} {vs us : List Value}, RelL E xs vs → RelL E ys us → RelL E (xs ++ ys) (vs ++ us)
  | [], ys, vs, us, h, k => by simp only [RelL] at h; subst h; simpa using k
  | c :: cs, ys, vs, us, h, k => by
    simp only [RelL, List.cons_append] at *
    obtain ⟨u, us', rfl, h1, h2⟩ := h
    exact ⟨u, us' ++ us, rfl, h1, RelL.append h2 k⟩
theorem RelL.split {E : Env} : ∀ {xs ys : List V} {vs : List Value}, RelL E (xs ++ ys) vs → ∃ a b, vs = a ++ b ∧ RelL E xs a ∧ RelL E ys b
  | [], ys, vs, h => ⟨[], vs, rfl, by simp [RelL], h⟩
  | c :: cs, ys, vs, h => by
    simp only [RelL, List.cons_append] at h
    obtain ⟨u, us, rfl, h1, h2⟩ := h
    obtain ⟨a, b, rfl, ha, hb⟩ := RelL.split h2
    exact ⟨u :: a, b, rfl, by simp only [RelL]; exact ⟨u, a, rfl, h1, ha⟩, hb⟩

theorem cells_lt {w : World} {b : Nat} {o : Obj} (h : w.heap[b]? = some o) : b < w.heap.size := (Array.getElem?_eq_some_iff.1 h).1
theorem RelL.le {E E' : Env} (L : Env.Le (fun _ => true) E E') {xs : List V} {vs : List Value} (h : RelL E xs vs) : RelL E' xs vs := RelL.mono L xs vs (V.allL_true xs) h
theorem Rel.le {E E' : Env} (L : Env.Le (fun _ => true) E E') {x : V} {v : Value} (h : Rel E x v) : Rel E' x v := Rel.mono L x v (V.all_true x) h
theorem RelObj.keep {C : Ctx} {E E' : Env} {v : Value} {o : AObj} (L : Env.Le (fun _ => true) E E') (hb : ∀ b, blk v = some b → E'.w.heap[b]? = E.w.heap[b]?) (h : RelObj C E v o) : RelObj C E' v o := by
  cases o with
  | box T cs =>
    obtain ⟨b, vs, rfl, h1, h2, h3⟩ := h
    exact ⟨b, vs, rfl, h1, (hb b rfl).trans h2, h3.le L⟩
  | arr T sz rows fr =>
    obtain ⟨us, ⟨h0, h1⟩, h2, h3⟩ := h
    refine ⟨us, ⟨h0, ?_⟩, h2.le L, h3⟩
    rcases h1 with h1 | ⟨g, cap, cur, rfl, hg, hh, hr⟩
    · exact .inl h1
    · exact .inr ⟨g, cap, cur, rfl, hg, (hb g rfl).trans hh, hr⟩
  | map es =>
    obtain ⟨b, clock, es', rfl, h1, h2, h3, h4⟩ := h
    exact ⟨b, clock, es', rfl, h1, (hb b rfl).trans h2, h3.le L, h4.le L⟩
  | que T sz rows =>
    obtain ⟨us, j, hj, ⟨h0, h1⟩, h2, h3⟩ := h
    refine ⟨us, j, hj, ⟨h0, ?_⟩, h2.le L, h3⟩
    rcases h1 with h1 | ⟨g, cap, cur, rfl, hg, hh, hr⟩
    · exact .inl h1
    · exact .inr ⟨g, cap, cur, rfl, hg, (hb g rfl).trans hh, hr⟩
  | loop st pe t ps asg bd =>
    obtain ⟨b, fn, us, df, rfl, h1, h2, h3⟩ := h
    exact ⟨b, fn, us, df, rfl, h1, (hb b rfl).trans h2, h3.le L⟩
  | dead => trivial
/-- The world has grown, or orders were drawn; nothing that was there has changed. -/
theorem Sim.world {C : Ctx} {s : St} {m : List Value} {a : Act} {w w1 : World} (S : Sim C s m a w) (hb : Below w.heap.size w w1) : Sim C s m a w1 := by
  have L : Env.Le (fun _ => true) (env C s.h m w) (env C s.h m w1) :=
    ⟨fun b _ h => h, fun b hb' _ => hb.block b hb', hb.size, fun i _ v h _ => h, fun i _ h => ⟨h, fun T sz rows fr ho => ⟨T, rows, fr, ho, Nat.le_refl _, fun _ => rfl⟩⟩, fun i _ T sz rows ho => ⟨rows, ho, Nat.le_refl _, fun _ => rfl⟩⟩
  refine ⟨S.below.trans (hb.mono S.below.size), S.out, S.len, S.slots.le L, S.defers.le L, fun i o v ho hv => ?_, S.apart, fun i v b hv hbk => ⟨(S.low i v b hv hbk).1, Nat.lt_of_lt_of_le (S.low i v b hv hbk).2 hb.size⟩⟩
  exact RelObj.keep L (fun b hbk => hb.block b (S.low i v b hv hbk).2) (S.objs i o v ho hv)
/-- A slot is written. -/
theorem Sim.put {C : Ctx} {s : St} {m : List Value} {a : Act} {w : World} (S : Sim C s m a w) (d : Option Tmp) {x : V} {u : Value} (h : Rel (env C s.h m w) x u) :
    Sim C ⟨match d with | some d => s.t.set d x | none => s.t, s.h⟩ m (a.put d u) w := by
  cases d with
  | none => exact ⟨S.below, S.out, S.len, S.slots, S.defers, S.objs, S.apart, S.low⟩
  | some d =>
    refine ⟨S.below, S.out, S.len, ?_, S.defers, S.objs, S.apart, S.low⟩
    have := RelL.set d S.slots h
    simpa [Act.put, Array.toList_setIfInBounds] using this
/-- The heap has grown, or changed where it may. -/
def Up (E E' : Env) : Prop := E.h.length ≤ E'.h.length ∧ Env.Le (fun _ => true) E E'
theorem Env.Le.rfl' (p : Nat → Bool) (E : Env) : Env.Le p E E :=
  ⟨fun _ _ h => h, fun _ _ _ => rfl, Nat.le_refl _, fun _ _ _ h _ => h, fun i _ h => ⟨h, fun T sz rows fr ho => ⟨T, rows, fr, ho, Nat.le_refl _, fun _ => rfl⟩⟩, fun i _ T sz rows ho => ⟨rows, ho, Nat.le_refl _, fun _ => rfl⟩⟩
theorem Up.refl (E : Env) : Up E E := ⟨Nat.le_refl _, Env.Le.rfl' _ _⟩
theorem up_world {C : Ctx} {h : List AObj} {m : List Value} {w w1 : World} (hb : Below w.heap.size w w1) : Up (env C h m w) (env C h m w1) :=
  ⟨Nat.le_refl _, ⟨fun b _ h => h, fun b hb' _ => hb.block b hb', hb.size, fun i _ v h _ => h, fun i _ h => ⟨h, fun T sz rows fr ho => ⟨T, rows, fr, ho, Nat.le_refl _, fun _ => rfl⟩⟩, fun i _ T sz rows ho => ⟨rows, ho, Nat.le_refl _, fun _ => rfl⟩⟩⟩
/-- A new object. -/
theorem Sim.add {C : Ctx} {s : St} {m : List Value} {a : Act} {w w' : World} (S : Sim C s m a w) {o : AObj} {v : Value} (hb : Below w.heap.size w w')
    (hv : ∀ b, blk v = some b → w.heap.size ≤ b ∧ b < w'.heap.size) (ho : Env.Le (fun _ => true) (env C s.h m w) (env C (s.h ++ [o]) (m ++ [v]) w') → RelObj C (env C (s.h ++ [o]) (m ++ [v]) w') v o) :
    Sim C ⟨s.t, s.h ++ [o]⟩ (m ++ [v]) a w' ∧ Up (env C s.h m w) (env C (s.h ++ [o]) (m ++ [v]) w') := by
  have hl := S.len
  have L : Env.Le (fun _ => true) (env C s.h m w) (env C (s.h ++ [o]) (m ++ [v]) w') := by
    refine ⟨fun b hlt h => ?_, fun b hb' _ => hb.block b hb', hb.size, fun i _ u h _ => ?_, fun i _ h => ⟨by simp only [env] at *; simp; omega, fun T sz rows fr ho => ⟨T, rows, fr, ?_, Nat.le_refl _, fun _ => ?_⟩⟩, fun i _ T sz rows ho => ⟨rows, ?_, Nat.le_refl _, fun _ => ?_⟩⟩
    · rcases h with h | ⟨i, o', v', h1, h2, h3, h4⟩
      · exact .inl h
      · rcases Nat.lt_or_ge i s.h.length with hi | hi
        · rw [List.getElem?_append_left hi] at h1
          rw [List.getElem?_append_left (by omega)] at h3
          exact .inr ⟨i, o', v', h1, h2, h3, h4⟩
        · rw [List.getElem?_append_right (by omega)] at h3
          rcases hk : i - m.length with _ | k
          · simp [hk] at h3
            subst h3
            have := (hv b h4).1
            simp only [env] at hlt
            omega
          · simp [hk] at h3
    · simp only [env] at *
      rw [List.getElem?_append_left (List.getElem?_eq_some_iff.1 h).1]; exact h
    · simp only [env] at *
      rw [List.getElem?_append_left h] at ho; exact ho
    · simp only [env] at *
      rw [List.getElem?_append_left (by omega)]
    · simp only [env] at *
      rw [List.getElem?_append_left (List.getElem?_eq_some_iff.1 ho).1]; exact ho
    · simp only [env] at *
      have := (List.getElem?_eq_some_iff.1 ho).1
      rw [List.getElem?_append_left (by omega)]
  refine ⟨⟨S.below.trans (hb.mono S.below.size), S.out, by simp [hl], S.slots.le L, S.defers.le L, fun i o' v' h1 h2 => ?_, fun i j x y b hij hx hy hbx => ?_, fun i x b hx hbx => ?_⟩, ⟨by simp [env], L⟩⟩
  · rcases Nat.lt_or_ge i s.h.length with hi | hi
    · rw [List.getElem?_append_left hi] at h1
      rw [List.getElem?_append_left (by omega)] at h2
      exact RelObj.keep L (fun b hbk => hb.block b (S.low i v' b h2 hbk).2) (S.objs i o' v' h1 h2)
    · rw [List.getElem?_append_right hi] at h1
      rw [List.getElem?_append_right (by omega)] at h2
      rcases hk : i - m.length with _ | k
      · have hk' : i - s.h.length = 0 := by omega
        simp [hk] at h2; simp [hk'] at h1
        subst h1; subst h2; exact ho L
      · simp [hk] at h2
  · have old : ∀ (i : Nat) x b, m[i]? = some x → blk x = some b → b < w.heap.size := fun i x b hx hb' => (S.low i x b hx hb').2
    rcases Nat.lt_or_ge i m.length with hi | hi <;> rcases Nat.lt_or_ge j m.length with hj | hj
    · rw [List.getElem?_append_left hi] at hx; rw [List.getElem?_append_left hj] at hy; exact S.apart i j x y b hij hx hy hbx
    · rw [List.getElem?_append_left hi] at hx; rw [List.getElem?_append_right hj] at hy
      rcases hk : j - m.length with _ | k
      · simp [hk] at hy; subst hy
        intro hby
        have h1 := (hv b hby).1
        have h2 := old i x b hx hbx
        omega
      · simp [hk] at hy
    · rw [List.getElem?_append_right hi] at hx; rw [List.getElem?_append_left hj] at hy
      rcases hk : i - m.length with _ | k
      · simp [hk] at hx; subst hx
        intro hby
        have h1 := (hv b hbx).1
        have h2 := old j y b hy hby
        omega
      · simp [hk] at hx
    · rw [List.getElem?_append_right hi] at hx; rw [List.getElem?_append_right hj] at hy
      rcases hk : i - m.length with _ | k
      · rcases hk' : j - m.length with _ | k'
        · omega
        · simp [hk'] at hy
      · simp [hk] at hx
  · rcases Nat.lt_or_ge i m.length with hi | hi
    · rw [List.getElem?_append_left hi] at hx
      have := S.low i x b hx hbx
      exact ⟨this.1, Nat.lt_of_lt_of_le this.2 hb.size⟩
    · rw [List.getElem?_append_right hi] at hx
      rcases hk : i - m.length with _ | k
      · simp [hk] at hx; subst hx
        have := hv b hbx
        exact ⟨Nat.le_trans S.below.size this.1, this.2⟩
      · simp [hk] at hx
/-- What may become of an object. -/
def Turn (o : AObj) (v : Value) (o' : AObj) (v' : Value) : Prop :=
  (∃ T cs cs', o = .box T cs ∧ o' = .box T cs' ∧ v' = v) ∨
  (∃ T sz rows rows' fr fr', o = .arr T sz rows fr ∧ o' = .arr T sz rows' fr' ∧ rows.length ≤ rows'.length ∧ (rows.length = rows'.length → v' = v)) ∨
  (∃ es es', o = .map es ∧ o' = .map es' ∧ v' = v) ∨
  (∃ T sz rows rows', o = .que T sz rows ∧ o' = .que T sz rows' ∧ rows.length ≤ rows'.length ∧ (rows.length = rows'.length → v' = v)) ∨
  (∃ st pe t ps asg bd st' pe' t', o = .loop st pe t ps asg bd ∧ o' = .loop st' pe' t' ps asg bd ∧ v' = v)
/-- An object turns. -/
theorem Sim.turn {C : Ctx} {s : St} {m : List Value} {a : Act} {w w' : World} (S : Sim C s m a w) {i : Nat} {o o' : AObj} {v v' : Value} (hi : s.h[i]? = some o) (hm : m[i]? = some v) (hlive : o.live = true)
    (hT : Turn o v o' v') (hb : w.grownBy w' (blk v)) (hv : blk v' = blk v ∨ ∀ b, blk v' = some b → w.heap.size ≤ b ∧ b < w'.heap.size)
    (ho : Env.Le (fun _ => true) (env C s.h m w) (env C (s.h.set i o') (m.set i v') w') → RelObj C (env C (s.h.set i o') (m.set i v') w') v' o') :
    Sim C ⟨s.t, s.h.set i o'⟩ (m.set i v') a w' ∧ Up (env C s.h m w) (env C (s.h.set i o') (m.set i v') w') := by
  have hl := S.len
  have hih : i < s.h.length := (List.getElem?_eq_some_iff.1 hi).1
  have him : i < m.length := (List.getElem?_eq_some_iff.1 hm).1
  have L : Env.Le (fun _ => true) (env C s.h m w) (env C (s.h.set i o') (m.set i v') w') := by
    refine ⟨fun b hlt h => ?_, fun b hb' hnb => ?_, hb.size, fun j _ u h hns => ?_, fun j _ h => ⟨by simp only [env] at *; simpa using h, fun T sz rows fr hj => ?_⟩, fun j _ T sz rows hj => ?_⟩
    · rcases h with h | ⟨j, o1, v1, h1, h2, h3, h4⟩
      · exact .inl h
      · by_cases hji : i = j
        · subst hji
          rw [List.getElem?_set_self hih] at h1
          rw [List.getElem?_set_self him] at h3
          cases h1; cases h3
          rcases hv with hv | hv
          · exact .inr ⟨i, o, v, hi, hlive, hm, by rw [← hv]; exact h4⟩
          · have := (hv b h4).1
            simp only [env] at hlt
            omega
        · rw [List.getElem?_set_ne hji] at h1 h3
          exact .inr ⟨j, o1, v1, h1, h2, h3, h4⟩
    · refine hb.block b hb' (fun e => hnb ?_)
      exact .inr ⟨i, o, v, hi, hlive, hm, e.symm⟩
    · simp only [env] at *
      by_cases hji : i = j
      · subst hji
        rw [hm] at h; cases h
        rw [List.getElem?_set_self him]
        rcases hT with ⟨T, cs, cs', rfl, rfl, rfl⟩ | ⟨T, sz, rows, rows', fr, fr', rfl, rfl, hle, he⟩ | ⟨es, es', rfl, rfl, rfl⟩ | ⟨T, sz, rows, rows', rfl, rfl, hle, he⟩ | ⟨_, _, _, _, _, _, _, _, _, rfl, rfl, rfl⟩
        · rfl
        · exfalso
          obtain ⟨us, ⟨h0, h1⟩, _⟩ := S.objs i _ v hi hm
          rcases h1 with ⟨rfl, _⟩ | ⟨g, cap, cur, rfl, _⟩ <;> exact hns _ _ _ rfl
        · rfl
        · exfalso
          obtain ⟨us, j, _, ⟨h0, h1⟩, _⟩ := S.objs i _ v hi hm
          rcases h1 with ⟨rfl, _⟩ | ⟨g, cap, cur, rfl, _⟩ <;> exact hns _ _ _ rfl
        · rfl
      · rw [List.getElem?_set_ne hji]; exact h
    · simp only [env] at *
      by_cases hji : i = j
      · subst hji
        rw [List.getElem?_set_self hih] at hj
        cases hj
        rcases hT with ⟨_, _, _, _, h, _⟩ | ⟨T0, sz0, rows0, rows0', fr0, fr0', rfl, h, hle, he⟩ | ⟨_, _, _, h, _⟩ | ⟨_, _, _, _, _, h, _⟩ | ⟨_, _, _, _, _, _, _, _, _, _, h, _⟩
        · cases h
        · cases h
          exact ⟨_, _, _, hi, hle, fun h => by rw [List.getElem?_set_self him, hm, he h]⟩
        · cases h
        · cases h
        · cases h
      · rw [List.getElem?_set_ne hji] at hj
        exact ⟨_, _, _, hj, Nat.le_refl _, fun _ => by rw [List.getElem?_set_ne hji]⟩
    · simp only [env] at *
      by_cases hji : i = j
      · subst hji
        rw [hi] at hj; cases hj
        rw [List.getElem?_set_self hih, List.getElem?_set_self him, hm]
        rcases hT with ⟨_, _, _, h, _⟩ | ⟨_, _, _, _, _, _, h, _⟩ | ⟨_, _, h, _⟩ | ⟨T0, sz0, rows0, rows0', h, h', hle, he⟩ | ⟨_, _, _, _, _, _, _, _, _, h, _⟩
        · cases h
        · cases h
        · cases h
        · cases h
          exact ⟨rows0', by rw [h'], hle, fun h => by rw [he h]⟩
        · cases h
      · rw [List.getElem?_set_ne hji, List.getElem?_set_ne hji]
        exact ⟨rows, hj, Nat.le_refl _, fun _ => rfl⟩
  have hlowi := S.low i v
  have hbl : ∀ b, blk v = some b → C.w0.heap.size ≤ b ∧ b < w.heap.size := fun b h => S.low i v b hm h
  have bel : Below C.w0.heap.size C.w0 w' := S.below.grown hb S.below.size (fun k hk => (hbl k hk).1)
  refine ⟨⟨bel, S.out, by simp [hl], S.slots.le L, S.defers.le L, fun j o1 v1 h1 h2 => ?_, fun j k x y b hjk hx hy hbx => ?_, fun j x b hx hbx => ?_⟩, ⟨by simp [env], L⟩⟩
  · by_cases hji : i = j
    · subst hji
      simp only at h1 h2
      rw [List.getElem?_set_self hih] at h1
      rw [List.getElem?_set_self him] at h2
      cases h1; cases h2
      exact ho L
    · simp only at h1 h2
      rw [List.getElem?_set_ne hji] at h1 h2
      refine RelObj.keep L (fun b hbk => ?_) (S.objs j o1 v1 h1 h2)
      exact hb.block b (S.low j v1 b h2 hbk).2 (fun e => S.apart j i v1 v b (Ne.symm hji) h2 hm hbk e.symm)
  · have cross : ∀ (j : Nat) y b, i ≠ j → m[j]? = some y → blk v' = some b → blk y ≠ some b := fun j y b hij hy hb1 hb2 => by
      rcases hv with hv | hv
      · exact S.apart i j v y b hij hm hy (by rw [← hv]; exact hb1) hb2
      · have h1 := (hv b hb1).1
        have h2 := (S.low j y b hy hb2).2
        omega
    by_cases h1 : i = j
    · subst h1
      rw [List.getElem?_set_self him] at hx; cases hx
      rw [List.getElem?_set_ne hjk] at hy
      exact cross k y b hjk hy hbx
    · rw [List.getElem?_set_ne h1] at hx
      by_cases h2 : i = k
      · subst h2
        rw [List.getElem?_set_self him] at hy; cases hy
        exact fun h => cross j x b h1 hx h hbx
      · rw [List.getElem?_set_ne h2] at hy
        exact S.apart j k x y b hjk hx hy hbx
  · by_cases h1 : i = j
    · subst h1
      rw [List.getElem?_set_self him] at hx; cases hx
      rcases hv with hv | hv
      · rw [hv] at hbx
        exact ⟨(hbl b hbx).1, Nat.lt_of_lt_of_le (hbl b hbx).2 hb.size⟩
      · exact ⟨Nat.le_trans S.below.size (hv b hbx).1, (hv b hbx).2⟩
    · rw [List.getElem?_set_ne h1] at hx
      have := S.low j x b hx hbx
      exact ⟨this.1, Nat.lt_of_lt_of_le this.2 hb.size⟩
end Go.Ab
namespace Go.Ab
open Go Go.RowKit
set_option linter.unusedVariables false

def kindT (P : Program) (T : TypeId) : Option Bool :=
  match P.underlying T with
  | some (.struct _) | some (.array _ _) => some true
  | some _ => some false
  | none => none
def sizeT (P : Program) (T : TypeId) : Nat := P.cellsOf T
theorem info_of_kind {P : Program} {T : TypeId} {b : Bool} (h : kindT P T = some b) : ∃ i, P.info? T = some i ∧ sizeT P T = i.size := by
  unfold kindT Program.underlying at h
  cases hi : P.info? T with
  | none => simp [hi] at h
  | some i => exact ⟨i, rfl, by simp [sizeT, Program.cellsOf, hi]⟩
theorem run_sizeT {P : Program} {T : TypeId} {b : Bool} (h : kindT P T = some b) (w : World) : (sizeOf T).run P w = .ok (sizeT P T) w := by
  obtain ⟨i, hi, hs⟩ := info_of_kind h
  simp [sizeOf, typeInfo, hi, hs]
theorem run_isAgg {P : Program} {T : TypeId} {b : Bool} (h : kindT P T = some b) (w : World) : (isAgg T).run P w = .ok b w := by
  unfold kindT at h
  cases hu : P.underlying T with
  | none => simp [hu] at h
  | some d =>
    unfold isAgg
    simp only [hu] at h
    cases d <;> simp_all [run_underlying]
theorem RelCells.values {E : Env} : ∀ {cs : List V} {ad : Addr} {k : Nat}, RelCells E ad k cs → ∃ vs, RelL E cs vs ∧ ∀ j v, vs[j]? = some v → E.w.cell? (ad.add (k + j)) = some v
  | [], ad, k, _ => ⟨[], by simp [RelL], by simp⟩
  | c :: cs, ad, k, h => by
    simp only [RelCells] at h
    obtain ⟨⟨u, hu, hr⟩, h2⟩ := h
    obtain ⟨vs, hv, hc⟩ := RelCells.values h2
    refine ⟨u :: vs, by simp only [RelL]; exact ⟨u, vs, rfl, hr, hv⟩, fun j v hj => ?_⟩
    cases j with
    | zero => simp at hj; subst hj; simpa using hu
    | succ j => simp at hj; have := hc j v hj; rwa [Nat.add_assoc, Nat.add_comm 1 j] at this
theorem RelCells.of {E : Env} : ∀ {cs : List V} {vs : List Value} {ad : Addr} {k : Nat}, RelL E cs vs → (∀ j v, vs[j]? = some v → E.w.cell? (ad.add (k + j)) = some v) → RelCells E ad k cs
  | [], _, _, _, _, _ => by simp only [RelCells]
  | c :: cs, vs, ad, k, h, hc => by
    simp only [RelL] at h
    obtain ⟨u, us, rfl, h1, h2⟩ := h
    simp only [RelCells]
    exact ⟨⟨u, by simpa using hc 0 u rfl, h1⟩, RelCells.of h2 (fun j v hj => by have := hc (j + 1) v (by simpa using hj); rwa [← Nat.add_assoc, Nat.add_right_comm] at this)⟩
theorem RelL.take {E : Env} : ∀ {xs : List V} {vs : List Value} (k : Nat), RelL E xs vs → RelL E (xs.take k) (vs.take k)
  | [], vs, k, h => by simp only [RelL] at h; subst h; simp [RelL]
  | c :: cs, vs, k, h => by
    simp only [RelL] at h
    obtain ⟨u, us, rfl, h1, h2⟩ := h
    cases k with
    | zero => simp [RelL]
    | succ k => simp only [List.take_succ_cons, RelL]; exact ⟨u, _, rfl, h1, RelL.take k h2⟩
theorem RelL.drop {E : Env} : ∀ {xs : List V} {vs : List Value} (k : Nat), RelL E xs vs → RelL E (xs.drop k) (vs.drop k)
  | [], vs, k, h => by simp only [RelL] at h; subst h; simp [RelL]
  | c :: cs, vs, k, h => by
    cases k with
    | zero => simpa using h
    | succ k =>
      simp only [RelL] at h
      obtain ⟨u, us, rfl, h1, h2⟩ := h
      simpa using RelL.drop k h2

/-- The cells behind a pointer. -/
def cellsAt (h : List AObj) : V → Option (List V)
  | .ro cs => some cs
  | .ptr i off => match h[i]? with
    | some (.box _ cs) => if off ≤ cs.length then some (cs.drop off) else none
    | _ => none
  | .aptr i n r off => match h[i]? with
    | some (.arr _ sz rows _) => if n = rows.length then (match rows[r]? with
      | some row => if off ≤ row.length then some (row.drop off) else none
      | none => none) else none
    | _ => none
  | .qptr i n r off => match h[i]? with
    | some (.que _ sz rows) => if n = rows.length then (match rows[r]? with
      | some row => if off ≤ row.length then some (row.drop off) else none
      | none => none) else none
    | _ => none
  | _ => none
theorem add_add (ad : Addr) (i j : Nat) (h : ad.spot = none) : (ad.add i).add j = ad.add (i + j) := by
  unfold Addr.add
  split <;> split <;> simp_all <;> omega
theorem add_at (b o k : Nat) : (⟨b, o, none⟩ : Addr).add k = ⟨b, o + k, none⟩ := by unfold Addr.add; split <;> simp_all
theorem flatten_at {α : Type} : ∀ (rows : List (List α)) (sz r : Nat) (row : List α), (∀ x ∈ rows, x.length = sz) → rows[r]? = some row → ∀ j x, row[j]? = some x → rows.flatten[r * sz + j]? = some x
  | [], sz, r, row, _, h, _, _, _ => by simp at h
  | y :: rows, sz, r, row, hs, h, j, x, hj => by
    have hy : y.length = sz := hs y (by simp)
    cases r with
    | zero =>
      simp at h; subst h
      have hlt := (List.getElem?_eq_some_iff.1 hj).1
      simp only [List.flatten_cons, Nat.zero_mul, Nat.zero_add]
      rw [List.getElem?_append_left hlt]; exact hj
    | succ r =>
      simp at h
      have ih := flatten_at rows sz r row (fun x hx => hs x (by simp [hx])) h j x hj
      simp only [List.flatten_cons]
      rw [List.getElem?_append_right (by rw [hy, Nat.succ_mul]; omega), hy, Nat.succ_mul]
      rw [show r * sz + sz + j - sz = r * sz + j by omega]; exact ih
theorem own_cells {E : Env} {w : World} (hw : E.w = w) {B g T sz cap : Nat} {rows : List (List V)} {us : List Value} {row : List V} {r off n : Nat} (hn : n = rows.length) (ho : w.ownsRow B T sz (.slice (some ⟨g, 0, none⟩) n cap) rows.length us) (hR : RelL E rows.flatten us)
    (hsz : ∀ r ∈ rows, r.length = sz) (hr : rows[r]? = some row) (hle : off ≤ row.length) : RelCells E ⟨g, r * sz + off, none⟩ 0 (row.drop off) := by
  subst hn
  obtain ⟨h0, h1⟩ := ho
  rcases h1 with ⟨he, _⟩ | ⟨g', cap', cur, he, hg, hh, hn', hcap, hcur, htake⟩
  · cases he
  · cases he
    have key : ∀ j x, row[j]? = some x → ∃ u, w.cell? ⟨g, r * sz + j, none⟩ = some u ∧ Rel E x u := fun j x hj => by
      obtain ⟨u, hu, hrel⟩ := RelL.get (r * sz + j) hR (flatten_at rows sz r row hsz hr j x hj)
      refine ⟨u, ?_, hrel⟩
      simp only [World.cell?, hh]
      rw [← htake] at hu
      have := List.getElem?_take (l := cur.toList) (i := rows.length * sz) (j := r * sz + j)
      rw [this] at hu
      split at hu
      · simpa using hu
      · cases hu
    have gen : ∀ (l : List V) (k : Nat), (∀ j x, l[j]? = some x → row[k + j]? = some x) → RelCells E ⟨g, r * sz + off, none⟩ (k - off) l ∨ k < off := fun l => by
      induction l with
      | nil => intro k _; exact .inl (by simp only [RelCells])
      | cons c l ih =>
        intro k hk
        rcases Nat.lt_or_ge k off with hlt | hge
        · exact .inr hlt
        · refine .inl ?_
          simp only [RelCells]
          obtain ⟨u, hu, hrel⟩ := key k c (by simpa using hk 0 c rfl)
          refine ⟨⟨u, ?_, hrel⟩, ?_⟩
          · rw [hw, add_at, show r * sz + off + (k - off) = r * sz + k by omega]; exact hu
          · rcases ih (k + 1) (fun j x hj => by have := hk (j + 1) x (by simpa using hj); rwa [← Nat.add_assoc, Nat.add_right_comm] at this) with h | h
            · rwa [show k + 1 - off = k - off + 1 by omega] at h
            · omega
    rcases gen (row.drop off) off (fun j x hj => by simpa using hj) with h | h
    · simpa using h
    · omega
theorem cellsAt_sound {C : Ctx} {s : St} {m : List Value} {a : Act} {w : World} (S : Sim C s m a w) {x : V} {u : Value} {cs : List V} (hx : Rel (env C s.h m w) x u) (hc : cellsAt s.h x = some cs) :
    ∃ ad, u = .pointer (some ad) ∧ RelCells (env C s.h m w) ad 0 cs := by
  cases x with
  | ro cs' =>
    simp only [cellsAt, Option.some.injEq] at hc; subst hc
    simp only [Rel] at hx
    obtain ⟨ad, rfl, _, _, h⟩ := hx
    exact ⟨ad, rfl, h⟩
  | ptr i off =>
    simp only [cellsAt] at hc
    cases ho : s.h[i]? with
    | none => simp [ho] at hc
    | some o =>
      cases o with
      | box T cs0 =>
        simp only [ho] at hc
        split at hc
        · rename_i hle
          simp only [Option.some.injEq] at hc; subst hc
          simp only [Rel] at hx
          obtain ⟨b, hm, rfl⟩ := hx
          obtain ⟨b', vs, he, _, hh, hR⟩ := S.objs i _ _ ho hm
          cases he
          refine ⟨_, rfl, RelCells.of (RelL.drop off hR) (fun j v hj => ?_)⟩
          rw [add_at]
          simp only [env] at hh ⊢
          simp only [World.cell?, hh]
          simp at hj ⊢
          exact hj
        · cases hc
      | _ => simp [ho] at hc
  | aptr i n r off =>
    simp only [cellsAt] at hc
    cases ho : s.h[i]? with
    | none => simp [ho] at hc
    | some o =>
      cases o with
      | arr T sz rows fr =>
        simp only [ho] at hc
        split at hc
        · rename_i hn
          cases hr : rows[r]? with
          | none => simp [hr] at hc
          | some row =>
            simp only [hr] at hc
            split at hc
            · rename_i hle
              simp only [Option.some.injEq] at hc; subst hc
              simp only [Rel] at hx
              obtain ⟨_, hx⟩ := hx
              obtain ⟨g, cap, hm, rfl⟩ := (hx T sz rows fr ho).2 hn
              obtain ⟨us, hown, hR, hsz⟩ := S.objs i _ _ ho hm
              exact ⟨_, rfl, own_cells rfl hn hown hR hsz hr hle⟩
            · cases hc
        · cases hc
      | _ => simp [ho] at hc
  | qptr i n r off =>
    simp only [cellsAt] at hc
    simp only [Rel] at hx
    obtain ⟨T, sz, rows, ho, hle0, hx⟩ := hx
    simp only [env] at ho
    simp only [ho] at hc
    split at hc
    · rename_i hn
      cases hr : rows[r]? with
      | none => simp [hr] at hc
      | some row =>
        simp only [hr] at hc
        split at hc
        · rename_i hle
          simp only [Option.some.injEq] at hc; subst hc
          obtain ⟨g, cap, j, hm, hj, hrn, rfl⟩ := hx hn
          obtain ⟨us, j', hj', hown, hR, hsz⟩ := S.objs i _ _ ho hm
          have hl : rows.length - j' = n - j := by
            rcases hown.2 with ⟨he, _⟩ | ⟨g', cap', cur, he, _⟩
            · cases he
            · simp only [Value.slice.injEq] at he; exact he.2.1.symm
          have hjj : j' = j := by omega
          subst hjj
          refine ⟨_, rfl, own_cells rfl (rows := rows.drop j') (n := n - j') (by rw [List.length_drop]; omega) (by rw [List.length_drop]; exact hown) hR (fun r hr => hsz r (List.mem_of_mem_drop hr)) ?_ hle⟩
          rw [List.getElem?_drop, show j' + (r - j') = r by omega]; exact hr
        · cases hc
    · cases hc
  | _ => simp [cellsAt] at hc
end Go.Ab
namespace Go.Ab
open Go Go.RowKit
set_option linter.unusedVariables false

/-- Is a reference to an own row not overtaken by an append? -/
def cur (h : List AObj) : V → Bool
  | .arr i n => match h[i]? with | some (.arr _ _ rows _) => n == rows.length | _ => false
  | .aptr i n _ _ => match h[i]? with | some (.arr _ _ rows _) => n == rows.length | _ => false
  | .arrd i n _ => match h[i]? with | some (.que _ _ rows) => n == rows.length | _ => false
  | .qptr i n _ _ => match h[i]? with | some (.que _ _ rows) => n == rows.length | _ => false
  | _ => true
/-- One cell, and what it holds is known. -/
def V.one (h : List AObj) : V → Bool
  | .agg _ | .tup _ | .undef => false
  | x => cur h x
theorem cur_arr {C : Ctx} {s : St} {m : List Value} {a : Act} {w : World} (S : Sim C s m a w) {i n : Nat} {u : Value} (hr : Rel (env C s.h m w) (.arr i n) u) (hc : cur s.h (.arr i n) = true) :
    ∃ T sz rows fr us, s.h[i]? = some (.arr T sz rows fr) ∧ n = rows.length ∧ m[i]? = some u ∧ w.ownsRow C.w0.heap.size T sz u rows.length us ∧ RelL (env C s.h m w) rows.flatten us ∧ (∀ r ∈ rows, r.length = sz) := by
  simp only [cur] at hc
  split at hc
  · rename_i T sz rows fr ho
    have hn : n = rows.length := by simpa using hc
    simp only [Rel] at hr
    have hm := (hr.2 _ _ _ _ ho).2 hn
    obtain ⟨us, h1, h2, h3⟩ := S.objs i _ u ho hm
    exact ⟨T, sz, rows, fr, us, ho, hn, hm, h1, h2, h3⟩
  · cases hc
theorem owns_shape {w : World} {B : Nat} {T sz n : Nat} {u : Value} {us : List Value} (h : w.ownsRow B T sz u n us) : ∃ A c, u = .slice A n c ∧ n ≤ c ∧ n ≤ 9223372036854775807 ∧ (∀ ad, A = some ad → ∃ g, ad = ⟨g, 0, none⟩) ∧ (0 < n → ∃ g, A = some ⟨g, 0, none⟩) := by
  rcases h.2 with ⟨rfl, rfl⟩ | ⟨g, cap, cr, rfl, _, _, hn, hcap, _⟩
  · exact ⟨none, 0, rfl, Nat.le_refl _, by omega, by simp, by simp⟩
  · exact ⟨_, cap, rfl, hn, by unfold maxLen at hcap; omega, by rintro ad ⟨rfl⟩; exact ⟨g, rfl⟩, fun _ => ⟨g, rfl⟩⟩
theorem cur_aptr {C : Ctx} {s : St} {m : List Value} {a : Act} {w : World} (S : Sim C s m a w) {i n r o : Nat} {u : Value} (hr : Rel (env C s.h m w) (.aptr i n r o) u) (hc : cur s.h (.aptr i n r o) = true) :
    ∃ b k, u = .pointer (some ⟨b, k, none⟩) := by
  simp only [cur] at hc
  split at hc
  · rename_i T sz rows fr ho
    have hn : n = rows.length := by simpa using hc
    simp only [Rel] at hr
    obtain ⟨g, cap, _, rfl⟩ := (hr.2 _ _ _ _ ho).2 hn
    exact ⟨_, _, rfl⟩
  · cases hc
theorem cur_arrd {C : Ctx} {s : St} {m : List Value} {a : Act} {w : World} (S : Sim C s m a w) {i n k : Nat} {u : Value} (hr : Rel (env C s.h m w) (.arrd i n k) u) (hc : cur s.h (.arrd i n k) = true) :
    ∃ T sz rows us A c j, s.h[i]? = some (.que T sz rows) ∧ n = rows.length ∧ m[i]? = some (.slice A (n - j) c) ∧ j ≤ k ∧ k ≤ n ∧ n - j ≤ c ∧ w.ownsRow C.w0.heap.size T sz (.slice A (n - j) c) (n - j) us ∧ RelL (env C s.h m w) (rows.drop j).flatten us ∧ (∀ r ∈ rows, r.length = sz) ∧
      ∃ A', u = .slice A' (n - k) (c - (k - j)) ∧ (c = k - j ∨ ∃ g, A = some ⟨g, 0, none⟩ ∧ A' = some ⟨g, (k - j) * sz, none⟩) := by
  simp only [cur] at hc
  simp only [Rel] at hr
  obtain ⟨T, sz, rows, ho, hle, hr⟩ := hr
  simp only [env] at ho
  rw [ho] at hc
  have hn : n = rows.length := by simpa using hc
  obtain ⟨A, c, j, hm, hj, hk, hnc, A', hu, hA⟩ := hr hn
  obtain ⟨us, j', hj', h1, h2, h3⟩ := S.objs i _ _ ho hm
  have hl : rows.length - j' = n - j := by
    rcases h1.2 with ⟨he, h0⟩ | ⟨g', cap', cr, he, _⟩
    · simp only [Value.slice.injEq] at he; omega
    · simp only [Value.slice.injEq] at he; exact he.2.1.symm
  have hjj : j' = j := by omega
  subst hjj
  exact ⟨T, sz, rows, us, A, c, j', ho, hn, hm, hj, hk, hnc, by rw [← hl, hl]; rw [← hl]; rw [hl] at h1 ⊢; exact h1, h2, h3, A', hu, hA⟩
theorem cur_qptr {C : Ctx} {s : St} {m : List Value} {a : Act} {w : World} (S : Sim C s m a w) {i n r o : Nat} {u : Value} (hr : Rel (env C s.h m w) (.qptr i n r o) u) (hc : cur s.h (.qptr i n r o) = true) :
    ∃ b k, u = .pointer (some ⟨b, k, none⟩) := by
  simp only [cur] at hc
  simp only [Rel] at hr
  obtain ⟨T, sz, rows, ho, hle, hr⟩ := hr
  simp only [env] at ho
  rw [ho] at hc
  obtain ⟨g, cap, j, _, _, _, rfl⟩ := hr (by simpa using hc)
  exact ⟨_, _, rfl⟩
theorem V.one_sound {C : Ctx} {s : St} {m : List Value} {a : Act} {w : World} (S : Sim C s m a w) {x : V} {u : Value} (h : x.one s.h = true) (hr : Rel (env C s.h m w) x u) : u.oneCell' = true := by
  cases x
  case arr i n =>
    obtain ⟨_, _, _, _, _, _, _, _, ho, _⟩ := cur_arr S hr (by simpa [V.one] using h)
    obtain ⟨_, _, rfl, _⟩ := owns_shape ho
    all_goals rfl
  case aptr i n r o =>
    obtain ⟨_, _, rfl⟩ := cur_aptr S hr (by simpa [V.one] using h)
    all_goals rfl
  case arrd i n k =>
    obtain ⟨_, _, _, _, _, _, _, _, _, _, _, _, _, _, _, _, _, rfl, _⟩ := cur_arrd S hr (by simpa [V.one] using h)
    all_goals rfl
  case qptr i n r o =>
    obtain ⟨_, _, rfl⟩ := cur_qptr S hr (by simpa [V.one] using h)
    all_goals rfl
  all_goals (simp only [V.one, Rel] at h hr; try contradiction)
  all_goals first
    | (subst hr; rfl)
    | (obtain ⟨_, _, rfl, _⟩ := hr; rfl)
    | (obtain ⟨_, rfl, _⟩ := hr; rfl)
    | (obtain ⟨_, _, rfl⟩ := hr; rfl)

def loadV (P : Program) (h : List AObj) (T : TypeId) (x : V) : Option V :=
  match kindT P T, cellsAt h x with
  | some true, some cs => if sizeT P T ≤ cs.length then some (.agg (cs.take (sizeT P T))) else none
  | some false, some (c :: _) => some c
  | _, _ => none
theorem run_loadAt_agg {P : Program} {T : TypeId} (hk : kindT P T = some true) {w : World} {ad : Addr} {vs : List Value} (hn : vs.length = sizeT P T) (hc : ∀ j v, vs[j]? = some v → w.cell? (ad.add j) = some v) :
    (Instr.loadAt T (.pointer (some ad))).run P w = .ok (.agg vs.toArray) w := by
  simp only [Instr.loadAt, Instr.sureAddr, loadVar, Sem.run_bind, Sem.run_pure, Result.andThen_ok, run_isAgg hk, if_true, run_sizeT hk]
  rw [← hn, run_loadCells_list w ad vs hc]
  all_goals rfl
theorem run_loadAt_one {P : Program} {T : TypeId} (hk : kindT P T = some false) {w : World} {ad : Addr} {v : Value} (hc : w.cell? ad = some v) :
    (Instr.loadAt T (.pointer (some ad))).run P w = .ok v w := by
  simp only [Instr.loadAt, Instr.sureAddr, loadVar, Sem.run_bind, Sem.run_pure, Result.andThen_ok, run_isAgg hk]
  simp [hc]
theorem loadV_sound {P : Program} {C : Ctx} {s : St} {m : List Value} {a : Act} {w : World} (S : Sim C s m a w) {T : TypeId} {x y : V} {u : Value} (hx : Rel (env C s.h m w) x u) (hl : loadV P s.h T x = some y) :
    ∃ u', (Instr.loadAt T u).run P w = .ok u' w ∧ Rel (env C s.h m w) y u' := by
  unfold loadV at hl
  split at hl
  · rename_i cs hk hc
    obtain ⟨ad, rfl, hR⟩ := cellsAt_sound S hx hc
    split at hl
    · rename_i hle
      simp only [Option.some.injEq] at hl; subst hl
      obtain ⟨vs, hv, hcell⟩ := RelCells.values hR
      have hlen := hv.length
      refine ⟨_, run_loadAt_agg hk (vs := vs.take (sizeT P T)) (by simp; omega) (fun j v hj => ?_), ?_⟩
      · rw [List.getElem?_take] at hj
        split at hj
        · have := hcell j v hj; simpa only [Nat.zero_add, env] using this
        · cases hj
      · simp only [Rel]
        exact ⟨_, rfl, RelL.take _ hv⟩
    · cases hl
  · rename_i c cs hk hc
    obtain ⟨ad, rfl, hR⟩ := cellsAt_sound S hx hc
    simp only [Option.some.injEq] at hl; subst hl
    simp only [RelCells] at hR
    obtain ⟨⟨u, hu, hr⟩, _⟩ := hR
    refine ⟨u, run_loadAt_one hk ?_, hr⟩
    simpa only [Addr.add, if_true, env] using hu
  · cases hl
def shiftV (h : List AObj) (x : V) (off : Nat) : Option V :=
  match x with
  | .ro cs => if off ≤ cs.length then some (.ro (cs.drop off)) else none
  | .ptr i o => some (.ptr i (o + off))
  | .aptr i n r o => if cur h x then some (.aptr i n r (o + off)) else none
  | .qptr i n r o => if cur h x then some (.qptr i n r (o + off)) else none
  | _ => none
theorem add_add' (ad : Addr) (i j : Nat) : (ad.add i).add j = ad.add (i + j) := by
  unfold Addr.add
  by_cases h1 : i = 0 <;> by_cases h2 : j = 0 <;> simp [h1, h2]
  omega
theorem RelCells.drop {E : Env} : ∀ {cs : List V} {ad : Addr} {k : Nat} (n : Nat), RelCells E ad k cs → RelCells E ad (k + n) (cs.drop n)
  | cs, ad, k, 0, h => by simpa using h
  | [], ad, k, n + 1, h => by simp only [List.drop_nil, RelCells]
  | c :: cs, ad, k, n + 1, h => by
    simp only [RelCells] at h
    have := RelCells.drop n h.2
    simpa [Nat.add_assoc, Nat.add_comm 1 n] using this
theorem RelCells.shift {E : Env} : ∀ {cs : List V} {ad : Addr} {k n : Nat}, RelCells E ad (n + k) cs → RelCells E (ad.add n) k cs
  | [], ad, k, n, _ => by simp only [RelCells]
  | c :: cs, ad, k, n, h => by
    simp only [RelCells] at *
    obtain ⟨⟨u, hu, hr⟩, h2⟩ := h
    exact ⟨⟨u, by rw [add_add']; exact hu, hr⟩, RelCells.shift (by rwa [Nat.add_assoc] at h2)⟩
theorem shiftV_sound {C : Ctx} {s : St} {m : List Value} {a : Act} {w : World} (S : Sim C s m a w) {x y : V} {u : Value} {off : Nat} (hx : Rel (env C s.h m w) x u) (hs : shiftV s.h x off = some y) :
    ∃ ad, u = .pointer (some ad) ∧ Rel (env C s.h m w) y (.pointer (some (ad.add off))) := by
  cases x with
  | ro cs =>
    simp only [shiftV] at hs
    split at hs
    · simp only [Option.some.injEq] at hs; subst hs
      simp only [Rel] at hx ⊢
      obtain ⟨ad, rfl, hb, hlt, hR⟩ := hx
      refine ⟨ad, rfl, ad.add off, rfl, by rwa [add_block], by rwa [add_block], RelCells.shift (k := 0) ?_⟩
      simpa using RelCells.drop off hR
    · cases hs
  | ptr i o =>
    simp only [shiftV, Option.some.injEq] at hs; subst hs
    simp only [Rel] at hx ⊢
    obtain ⟨b, hm, rfl⟩ := hx
    exact ⟨_, rfl, b, hm, by rw [add_at]⟩
  | aptr i n r o =>
    simp only [shiftV] at hs
    split at hs
    case isFalse => cases hs
    rename_i hcur
    simp only [Option.some.injEq] at hs; subst hs
    obtain ⟨b, k, rfl⟩ := cur_aptr S hx hcur
    simp only [Rel] at hx ⊢
    refine ⟨_, rfl, hx.1, fun T sz rows fr ho => ⟨(hx.2 T sz rows fr ho).1, fun hn => ?_⟩⟩
    obtain ⟨g, cap, hm, he⟩ := (hx.2 T sz rows fr ho).2 hn
    refine ⟨g, cap, hm, ?_⟩
    cases he
    rw [add_at, Nat.add_assoc]
  | qptr i n r o =>
    simp only [shiftV] at hs
    split at hs
    case isFalse => cases hs
    rename_i hcur
    simp only [Option.some.injEq] at hs; subst hs
    obtain ⟨b, k, rfl⟩ := cur_qptr S hx hcur
    simp only [Rel] at hx ⊢
    obtain ⟨T, sz, rows, ho, hle, hx⟩ := hx
    refine ⟨_, rfl, T, sz, rows, ho, hle, fun hn => ?_⟩
    obtain ⟨g, cap, j, hm, hj, hrn, he⟩ := hx hn
    refine ⟨g, cap, j, hm, hj, hrn, ?_⟩
    cases he
    rw [add_at, Nat.add_assoc]
  | _ => simp [shiftV] at hs
end Go.Ab
namespace Go.Ab
open Go Go.RowKit
set_option linter.unusedVariables false

def foff (P : Program) (T f : Nat) : Option Nat :=
  match P.underlying T with
  | some (.struct fs) => match fs[f]? with
    | some fd => if P.cellsOf fd.type = 0 then none else some fd.offset
    | none => none
  | _ => none
def fieldV (P : Program) (h : List AObj) (T : TypeId) (x : V) (f : Nat) : Option V :=
  match foff P T f with
  | some off => shiftV h x off
  | none => none
theorem cellsOf_info {P : Program} {T : TypeId} (h : P.cellsOf T ≠ 0) (w : World) : (sizeOf T).run P w = .ok (P.cellsOf T) w := by
  unfold Program.cellsOf at *
  cases hi : P.info? T with
  | none => simp [hi] at h
  | some i => simp [sizeOf, typeInfo, hi]
theorem fieldV_sound {P : Program} {C : Ctx} {s : St} {m : List Value} {a : Act} {w : World} (S : Sim C s m a w) {T : TypeId} {f : Nat} {x y : V} {u : Value} (hx : Rel (env C s.h m w) x u) (hl : fieldV P s.h T x f = some y) :
    ∃ u', (Instr.fieldAt T u f).run P w = .ok u' w ∧ Rel (env C s.h m w) y u' := by
  unfold fieldV at hl
  split at hl
  · rename_i off ho
    obtain ⟨ad, rfl, hR⟩ := shiftV_sound S hx hl
    refine ⟨_, ?_, hR⟩
    unfold foff at ho
    split at ho
    · rename_i fs hu
      split at ho
      · rename_i fd hf
        split at ho
        · cases ho
        · rename_i hz
          simp only [Option.some.injEq] at ho; subst ho
          simp only [Instr.fieldAt, Sem.run_bind, run_underlying hu, Result.andThen_ok, hf, Instr.sureAddr, Sem.run_pure, fieldPlace, cellsOf_info hz, if_neg hz]
      · cases ho
    · cases ho
  · cases hl
/-- The element type of a slice type, and its cells. -/
def elemT (P : Program) (T : TypeId) : Option (TypeId × Nat) :=
  match P.underlying T with
  | some (.slice E) => if P.cellsOf E = 0 then none else some (E, P.cellsOf E)
  | _ => none
def arrT (P : Program) (T : TypeId) : Option (Nat × Nat) :=
  match P.underlying T with
  | some (.array n E) => if P.cellsOf E = 0 then none else some (n, P.cellsOf E)
  | _ => none
def indexAddrV (P : Program) (h : List AObj) (T : TypeId) (x i : V) : Option V :=
  match i with
  | .int _ k =>
    if 0 ≤ k then
      match elemT P T with
      | some (_, sz) => match x with
        | .sl sz' rows => match rows[k.toNat]? with
          | some r => if sz' = sz then some (.ro r) else none
          | none => none
        | .arr j n => match h[j]? with
          | some (.arr _ sz' rows _) => if n = rows.length ∧ k.toNat < n ∧ sz' = sz then some (.aptr j n k.toNat 0) else none
          | _ => none
        | .arrd j n d => match h[j]? with
          | some (.que _ sz' rows) => if n = rows.length ∧ d + k.toNat < n ∧ sz' = sz then some (.qptr j n (d + k.toNat) 0) else none
          | _ => none
        | _ => none
      | none => match arrT P T with
        | some (n, sz) => if k.toNat < n then shiftV h x (k.toNat * sz) else none
        | none => none
    else none
  | _ => none
theorem elemT_spec {P : Program} {T E sz : Nat} (h : elemT P T = some (E, sz)) : P.underlying T = some (.slice E) ∧ P.cellsOf E = sz ∧ sz ≠ 0 := by
  unfold elemT at h
  split at h
  · rename_i E' hu
    split at h
    · cases h
    · rename_i hz
      simp only [Option.some.injEq, Prod.mk.injEq] at h
      obtain ⟨rfl, rfl⟩ := h
      exact ⟨hu, rfl, hz⟩
  · cases h
theorem arrT_spec {P : Program} {T n sz : Nat} (h : arrT P T = some (n, sz)) : ∃ E, P.underlying T = some (.array n E) ∧ P.cellsOf E = sz ∧ sz ≠ 0 := by
  unfold arrT at h
  split at h
  · rename_i n' E' hu
    split at h
    · cases h
    · rename_i hz
      simp only [Option.some.injEq, Prod.mk.injEq] at h
      obtain ⟨rfl, rfl⟩ := h
      exact ⟨E', hu, rfl, hz⟩
  · cases h
theorem RelRows.get {E : Env} {ad : Addr} {sz : Nat} : ∀ {rows : List (List V)} {k : Nat} (i : Nat) {r : List V}, RelRows E ad sz k rows → rows[i]? = some r → r.length = sz ∧ RelCells E ad (k + i * sz) r
  | [], _, i, r, _, h => by simp at h
  | x :: xs, k, i, r, hR, h => by
    simp only [RelRows] at hR
    cases i with
    | zero => simp at h; subst h; simpa using ⟨hR.1, hR.2.1⟩
    | succ i =>
      simp at h
      have := RelRows.get i hR.2.2 h
      rw [Nat.succ_mul, show k + (i * sz + sz) = k + sz + i * sz by omega]; exact this
theorem indexAddrV_sound {P : Program} {C : Ctx} {s : St} {m : List Value} {a : Act} {w : World} (S : Sim C s m a w) {T : TypeId} {x i y : V} {u ui : Value} (hx : Rel (env C s.h m w) x u) (hi : Rel (env C s.h m w) i ui) (hl : indexAddrV P s.h T x i = some y) :
    ∃ u', (Instr.indexAt T u ui).run P w = .ok u' w ∧ Rel (env C s.h m w) y u' := by
  cases i with
  | int kk k =>
    simp only [indexAddrV] at hl
    split at hl
    case isFalse => cases hl
    rename_i h0
    simp only [Rel] at hi; subst hi
    split at hl
    · rename_i E sz he
      obtain ⟨hu, hsz, hnz⟩ := elemT_spec he
      have hso : (sizeOf E).run P w = .ok sz w := by rw [← hsz]; exact cellsOf_info (by rw [hsz]; exact hnz) w
      cases x with
      | sl sz' rows =>
        simp only at hl
        split at hl
        · rename_i r hr
          split at hl
          · rename_i hs; subst hs
            simp only [Option.some.injEq] at hl; subst hl
            simp only [Rel] at hx
            obtain ⟨A, c, rfl, hlen, hx⟩ := hx
            have hlt := (List.getElem?_eq_some_iff.1 hr).1
            rcases hx with rfl | ⟨ad, rfl, hb, hab, hR⟩
            · simp at hlt
            · have hg := RelRows.get k.toNat hR hr
              refine ⟨.pointer (some (ad.add (k.toNat * sz'))), ?_, ?_⟩
              · have hk : 0 ≤ k ∧ k < (rows.length : Int) := ⟨h0, by omega⟩
                simp [Instr.indexAt, asIntOf, run_underlying hu, hk, hso]
              · simp only [Rel]
                refine ⟨_, rfl, by rwa [add_block], by rwa [add_block], RelCells.shift ?_⟩
                simpa using hg.2
          · cases hl
        · cases hl
      | arr j n =>
        simp only at hl
        split at hl
        · rename_i T' sz' rows fr ho
          split at hl
          · rename_i hs
            obtain ⟨hn, hk, rfl⟩ := hs
            simp only [Option.some.injEq] at hl; subst hl
            obtain ⟨_, _, _, _, us, ho', _, hm, hown, _, _⟩ := cur_arr S hx (by simp [cur, ho, hn])
            rw [ho] at ho'; cases ho'
            obtain ⟨A, c, rfl, _, _, _, hg⟩ := owns_shape hown
            obtain ⟨g, rfl⟩ := hg (by omega)
            refine ⟨.pointer (some ((⟨g, 0, none⟩ : Addr).add (k.toNat * sz'))), ?_, ?_⟩
            · have hk' : 0 ≤ k ∧ k < (rows.length : Int) := ⟨h0, by omega⟩
              simp [Instr.indexAt, asIntOf, run_underlying hu, hk', hso]
            · simp only [Rel]
              refine ⟨(List.getElem?_eq_some_iff.1 ho).1, fun T1 sz1 rows1 fr1 ho1 => ?_⟩
              simp only [env] at ho1
              rw [ho] at ho1; cases ho1
              exact ⟨by omega, fun _ => ⟨g, c, by rw [← hn] at hm; simpa [env, hn] using hm, by rw [add_at]; simp⟩⟩
          · cases hl
        · cases hl
      | arrd j n d =>
        simp only at hl
        split at hl
        · rename_i T' sz' rows ho
          split at hl
          · rename_i hs
            obtain ⟨hn, hk, rfl⟩ := hs
            simp only [Option.some.injEq] at hl; subst hl
            obtain ⟨T1, sz1, rows1, us, A, c, j0, ho', hn1, hm, hj0, hdn, hnc, hown, _, _, A', rfl, hA⟩ := cur_arrd S hx (by simp [cur, ho, hn])
            rw [ho] at ho'; cases ho'
            rcases hA with hA | ⟨g, rfl, rfl⟩
            · omega
            refine ⟨.pointer (some ((⟨g, (d - j0) * sz', none⟩ : Addr).add (k.toNat * sz'))), ?_, ?_⟩
            · have hk' : 0 ≤ k ∧ k < ((n - d : Nat) : Int) := ⟨h0, by omega⟩
              simp [Instr.indexAt, asIntOf, run_underlying hu, hk', hso]
            · simp only [Rel, env]
              refine ⟨_, _, _, ho, by omega, fun _ => ⟨g, c, j0, hm, by omega, hk, ?_⟩⟩
              rw [add_at, ← Nat.add_mul, show d - j0 + k.toNat = d + k.toNat - j0 by omega]; rfl
          · cases hl
        · cases hl
      | _ => cases hl
    · split at hl
      · rename_i n sz ha
        obtain ⟨E, hu, hsz, hnz⟩ := arrT_spec ha
        have hso : (sizeOf E).run P w = .ok sz w := by rw [← hsz]; exact cellsOf_info (by rw [hsz]; exact hnz) w
        split at hl
        · rename_i hk
          obtain ⟨ad, rfl, hR⟩ := shiftV_sound S hx hl
          refine ⟨_, ?_, hR⟩
          have hk' : 0 ≤ k ∧ k < (n : Int) := ⟨h0, by omega⟩
          simp [Instr.indexAt, asIntOf, run_underlying hu, Instr.sureAddr, hk', hso]
        · cases hl
      · cases hl
  | _ => cases hl
/-- xs[lo:hi] of a slice that is only read. -/
def sliceV (P : Program) (T : TypeId) (x : V) (lo hi : Option V) : Option V :=
  match elemT P T, x with
  | some (_, sz), .sl sz' rows =>
    if sz' = sz then
      match lo, hi with
      | none, some (.int _ k) => if 0 ≤ k ∧ k.toNat ≤ rows.length then some (.sl sz (rows.take k.toNat)) else none
      | some (.int _ j), none => if 0 ≤ j ∧ j.toNat ≤ rows.length then some (.sl sz (rows.drop j.toNat)) else none
      | some (.int _ j), some (.int _ k) => if 0 ≤ j ∧ j ≤ k ∧ k.toNat ≤ rows.length then some (.sl sz ((rows.take k.toNat).drop j.toNat)) else none
      | _, _ => none
    else none
  | _, _ => none
theorem RelRows.take {E : Env} {ad : Addr} {sz : Nat} : ∀ {rows : List (List V)} {k : Nat} (n : Nat), RelRows E ad sz k rows → RelRows E ad sz k (rows.take n)
  | [], k, n, _ => by simp only [List.take_nil, RelRows]
  | r :: rs, k, 0, _ => by simp only [List.take_zero, RelRows]
  | r :: rs, k, n + 1, h => by
    simp only [RelRows, List.take_succ_cons] at *
    exact ⟨h.1, h.2.1, RelRows.take n h.2.2⟩
theorem RelRows.drop {E : Env} {ad : Addr} {sz : Nat} : ∀ {rows : List (List V)} {k : Nat} (n : Nat), RelRows E ad sz k rows → RelRows E ad sz (k + n * sz) (rows.drop n)
  | rows, k, 0, h => by simpa using h
  | [], k, n + 1, _ => by simp only [List.drop_nil, RelRows]
  | r :: rs, k, n + 1, h => by
    simp only [RelRows] at h
    have := RelRows.drop n h.2.2
    rw [Nat.succ_mul, show k + (n * sz + sz) = k + sz + n * sz by omega]
    simpa using this
theorem RelRows.shift {E : Env} {sz : Nat} : ∀ {rows : List (List V)} {ad : Addr} {k n : Nat}, RelRows E ad sz (n + k) rows → RelRows E (ad.add n) sz k rows
  | [], _, _, _, _ => by simp only [RelRows]
  | r :: rs, ad, k, n, h => by
    simp only [RelRows] at *
    exact ⟨h.1, RelCells.shift h.2.1, RelRows.shift (by rw [← Nat.add_assoc]; exact h.2.2)⟩
theorem sliceV_sound {P : Program} {E : Env} {w : World} {T : TypeId} {x y : V} {u : Value} {lo hi : Option V} {ulo uhi : Option Value} (hx : Rel E x u)
    (hlo : ∀ v, lo = some v → ∃ z, ulo = some z ∧ Rel E v z) (hlo' : lo = none → ulo = none) (hhi : ∀ v, hi = some v → ∃ z, uhi = some z ∧ Rel E v z) (hhi' : hi = none → uhi = none) (hl : sliceV P T x lo hi = some y) :
    ∃ u', (Instr.sliceAt T u ulo uhi none).run P w = .ok u' w ∧ Rel E y u' := by
  unfold sliceV at hl
  split at hl
  case h_2 => cases hl
  rename_i EE sz sz' rows he
  obtain ⟨hu, hsz, hnz⟩ := elemT_spec he
  have hso : (sizeOf EE).run P w = .ok sz w := by rw [← hsz]; exact cellsOf_info (by rw [hsz]; exact hnz) w
  split at hl
  case isFalse => cases hl
  rename_i hss; subst hss
  simp only [Rel] at hx
  obtain ⟨A, c, rfl, ⟨hlc, hlm⟩, hx⟩ := hx
  split at hl
  · rename_i kk k
    obtain ⟨z, rfl, hz⟩ := hhi _ rfl
    rw [hlo' rfl]
    simp only [Rel] at hz; subst hz
    split at hl
    case isFalse => cases hl
    rename_i hk
    simp only [Option.some.injEq] at hl; subst hl
    have hb : 0 ≤ k ∧ k ≤ (c : Int) := ⟨hk.1, by omega⟩
    refine ⟨.slice A k.toNat c, ?_, ?_⟩
    · simp [Instr.sliceAt, Instr.slice, Instr.sliceBounds, Instr.sliceBound, run_underlying hu, asIntOf, hb, hso]
      intro _
      cases A <;> simp [Addr.add]
    · simp only [Rel]
      refine ⟨A, c, by simp; omega, ⟨by simp; omega, by simp; omega⟩, ?_⟩
      rcases hx with rfl | ⟨ad, rfl, h1, h2, h3⟩
      · exact .inl (by simp)
      · exact .inr ⟨ad, rfl, h1, h2, RelRows.take _ h3⟩
  · rename_i kk j
    obtain ⟨z, rfl, hz⟩ := hlo _ rfl
    rw [hhi' rfl]
    simp only [Rel] at hz; subst hz
    split at hl
    case isFalse => cases hl
    rename_i hk
    simp only [Option.some.injEq] at hl; subst hl
    have hb : 0 ≤ j ∧ j ≤ (rows.length : Int) := ⟨hk.1, by omega⟩
    refine ⟨.slice (if c = j.toNat then A else A.map (·.add (j.toNat * sz'))) (rows.length - j.toNat) (c - j.toNat), ?_, ?_⟩
    · simp [Instr.sliceAt, Instr.slice, Instr.sliceBounds, Instr.sliceBound, run_underlying hu, asIntOf, hb, hso]
    · simp only [Rel]
      refine ⟨_, _, by rw [List.length_drop], ⟨by simp; omega, by simp; omega⟩, ?_⟩
      rcases hx with rfl | ⟨ad, rfl, h1, h2, h3⟩
      · exact .inl (by simp)
      · by_cases hc : c = j.toNat
        · exact .inl (List.drop_eq_nil_of_le (by omega))
        · refine .inr ⟨ad.add (j.toNat * sz'), by simp [hc], by rwa [add_block], by rwa [add_block], RelRows.shift (k := 0) ?_⟩
          simpa using RelRows.drop j.toNat h3
  · rename_i kk j kk' k
    obtain ⟨z, rfl, hz⟩ := hlo _ rfl
    obtain ⟨z', rfl, hz'⟩ := hhi _ rfl
    simp only [Rel] at hz hz'; subst hz; subst hz'
    split at hl
    case isFalse => cases hl
    rename_i hk
    simp only [Option.some.injEq] at hl; subst hl
    have hb : 0 ≤ k ∧ k ≤ (c : Int) := ⟨by omega, by omega⟩
    have hb' : 0 ≤ j ∧ j ≤ (k.toNat : Int) := ⟨hk.1, by omega⟩
    have hkk : (k.toNat : Int) = k := by omega
    refine ⟨.slice (if c = j.toNat then A else A.map (·.add (j.toNat * sz'))) (k.toNat - j.toNat) (c - j.toNat), ?_, ?_⟩
    · have hb3 : 0 ≤ j ∧ j ≤ k := ⟨hk.1, hk.2.1⟩
      simp [Instr.sliceAt, Instr.slice, Instr.sliceBounds, Instr.sliceBound, run_underlying hu, asIntOf, hb, hso, show ¬ (max k 0 < j) by omega]
      try (intro h; omega)
    · simp only [Rel]
      refine ⟨_, _, by rw [List.length_drop, List.length_take]; congr 1; omega, ⟨by simp; omega, by simp; omega⟩, ?_⟩
      rcases hx with rfl | ⟨ad, rfl, h1, h2, h3⟩
      · exact .inl (by simp)
      · by_cases hc : c = j.toNat
        · exact .inl (List.drop_eq_nil_of_le (by simp; omega))
        · refine .inr ⟨ad.add (j.toNat * sz'), by simp [hc], by rwa [add_block], by rwa [add_block], RelRows.shift (k := 0) ?_⟩
          simpa using RelRows.drop j.toNat (RelRows.take k.toNat h3)
  · cases hl
/-- xs[lo:] of a row that is drawn from its head. -/
def sliceD (P : Program) (h : List AObj) (T : TypeId) (x : V) (lo hi : Option V) : Option V :=
  match x with
  | .arrd i n k => match h[i]?, elemT P T, lo, hi with
    | some (.que _ sz' rows), some (_, sz), some (.int _ j), none => if n = rows.length ∧ sz' = sz ∧ 0 ≤ j ∧ k + j.toNat ≤ n then some (.arrd i n (k + j.toNat)) else none
    | _, _, _, _ => none
  | x => sliceV P T x lo hi
theorem sliceD_sound {P : Program} {C : Ctx} {s : St} {m : List Value} {a : Act} {w : World} (S : Sim C s m a w) {T : TypeId} {x y : V} {u : Value} {lo hi : Option V} {ulo uhi : Option Value} (hx : Rel (env C s.h m w) x u)
    (hlo : ∀ v, lo = some v → ∃ z, ulo = some z ∧ Rel (env C s.h m w) v z) (hlo' : lo = none → ulo = none) (hhi : ∀ v, hi = some v → ∃ z, uhi = some z ∧ Rel (env C s.h m w) v z) (hhi' : hi = none → uhi = none) (hl : sliceD P s.h T x lo hi = some y) :
    ∃ u', (Instr.sliceAt T u ulo uhi none).run P w = .ok u' w ∧ Rel (env C s.h m w) y u' := by
  unfold sliceD at hl
  split at hl
  · rename_i i n k
    split at hl
    · rename_i T' sz' rows E sz kk j ho he
      split at hl
      · rename_i hc
        obtain ⟨hn, rfl, h0, hkn⟩ := hc
        simp only [Option.some.injEq] at hl; subst hl
        obtain ⟨hu, hsz, hnz⟩ := elemT_spec he
        have hso : (sizeOf E).run P w = .ok sz' w := by rw [← hsz]; exact cellsOf_info (by rw [hsz]; exact hnz) w
        obtain ⟨z, rfl, hz⟩ := hlo _ rfl
        rw [hhi' rfl]
        simp only [Rel] at hz; subst hz
        obtain ⟨T1, sz1, rows1, us, A, c, j0, ho', hn1, hm, hj0, hdn, hnc, hown, _, _, A', rfl, hA⟩ := cur_arrd S hx (by simp [cur, ho, hn])
        rw [ho] at ho'; cases ho'
        have hb : 0 ≤ j ∧ j ≤ ((n - k : Nat) : Int) := ⟨h0, by omega⟩
        refine ⟨.slice (if c - (k - j0) = j.toNat then A' else A'.map (·.add (j.toNat * sz'))) (n - k - j.toNat) (c - (k - j0) - j.toNat), ?_, ?_⟩
        · simp [Instr.sliceAt, Instr.slice, Instr.sliceBounds, Instr.sliceBound, run_underlying hu, asIntOf, hb, hso]
        · simp only [Rel, env]
          refine ⟨_, _, _, ho, by omega, fun _ => ⟨A, c, j0, hm, by omega, hkn, hnc, if c - (k - j0) = j.toNat then A' else A'.map (·.add (j.toNat * sz')), ?_, ?_⟩⟩
          · rw [show n - k - j.toNat = n - (k + j.toNat) by omega, show c - (k - j0) - j.toNat = c - (k + j.toNat - j0) by omega]
          · by_cases hcc : c = k + j.toNat - j0
            · exact .inl hcc
            · rcases hA with hA | ⟨g, rfl, rfl⟩
              · omega
              · refine .inr ⟨g, rfl, ?_⟩
                rw [if_neg (by omega)]
                simp only [Option.map_some, add_at, ← Nat.add_mul]
                rw [show k - j0 + j.toNat = k + j.toNat - j0 by omega]
      · cases hl
    · cases hl
  · exact sliceV_sound hx hlo hlo' hhi hhi' hl
end Go.Ab
namespace Go.Ab
open Go Go.RowKit
set_option linter.unusedVariables false

/-- The cells of a value that can be stored. -/
def flat (h : List AObj) (x : V) : Option (List V) :=
  match x with
  | .agg cs => if cs.all (V.one h) then some cs else none
  | x => if V.one h x then some [x] else none
theorem RelL.one {C : Ctx} {s : St} {m : List Value} {a : Act} {w : World} (S : Sim C s m a w) : ∀ {cs : List V} {vs : List Value}, RelL (env C s.h m w) cs vs → cs.all (V.one s.h) = true → ∀ v ∈ vs, v.oneCell' = true
  | [], vs, h, _ => by simp only [RelL] at h; subst h; simp
  | c :: cs, vs, h, ha => by
    simp only [RelL] at h
    obtain ⟨u, us, rfl, h1, h2⟩ := h
    simp only [List.all_cons, Bool.and_eq_true] at ha
    intro v hv
    simp at hv
    rcases hv with rfl | hv
    · exact V.one_sound S ha.1 h1
    · exact RelL.one S h2 ha.2 v hv
theorem oneCell_cells {u : Value} (h : u.oneCell' = true) : u.cells = #[u] := by
  cases u <;> simp_all [Value.cells, Value.oneCell']
theorem flat_sound {C : Ctx} {s : St} {m : List Value} {a : Act} {w : World} (S : Sim C s m a w) {x : V} {u : Value} {cs : List V} (hx : Rel (env C s.h m w) x u) (hf : flat s.h x = some cs) :
    RelL (env C s.h m w) cs u.cells.toList ∧ ∀ v ∈ u.cells.toList, v.oneCell' = true := by
  unfold flat at hf
  split at hf
  · rename_i cs'
    split at hf
    · rename_i ha
      simp only [Option.some.injEq] at hf; subst hf
      simp only [Rel] at hx
      obtain ⟨vs, rfl, hR⟩ := hx
      exact ⟨hR, RelL.one S hR ha⟩
    · cases hf
  · split at hf
    · rename_i ho
      simp only [Option.some.injEq] at hf; subst hf
      have h1 := V.one_sound S ho hx
      rw [oneCell_cells h1]
      refine ⟨?_, by simpa using h1⟩
      simp only [RelL]
      exact ⟨u, [], rfl, hx, rfl⟩
    · cases hf
theorem below_alloc' (w : World) (o : Obj) : Below w.heap.size w (w.alloc o) := (Below.refl _ _).alloc (Nat.le_refl _) o
theorem alloc_new (w : World) (o : Obj) : (w.alloc o).heap[w.heap.size]? = some o := by
  show (w.heap.push o)[w.heap.size]? = some o
  simp only [Array.getElem?_push_size]
theorem size_alloc' (w : World) (o : Obj) : (w.alloc o).heap.size = w.heap.size + 1 := World.size_alloc w o
/-- A variable in memory. -/
theorem box_sim {C : Ctx} {s : St} {m : List Value} {a : Act} {w : World} (S : Sim C s m a w) (T : TypeId) {cs : List V} {vs : Array Value} (hR : RelL (env C s.h m w) cs vs.toList) :
    Sim C ⟨s.t, s.h ++ [.box T cs]⟩ (m ++ [.pointer (some ⟨w.heap.size, 0, none⟩)]) a (w.alloc (.cells vs T)) ∧
      Rel (env C (s.h ++ [.box T cs]) (m ++ [.pointer (some ⟨w.heap.size, 0, none⟩)]) (w.alloc (.cells vs T))) (.ptr s.h.length 0) (.pointer (some ⟨w.heap.size, 0, none⟩)) ∧ Up (env C s.h m w) (env C (s.h ++ [.box T cs]) (m ++ [.pointer (some ⟨w.heap.size, 0, none⟩)]) (w.alloc (.cells vs T))) := by
  obtain ⟨h1, L⟩ := S.add (o := .box T cs) (v := .pointer (some ⟨w.heap.size, 0, none⟩)) (below_alloc' w (.cells vs T)) (fun b hb => by simp only [blk, Option.some.injEq] at hb; subst hb; exact ⟨Nat.le_refl _, by rw [size_alloc']; omega⟩)
    (fun L => ⟨_, vs, rfl, S.below.size, alloc_new _ _, hR.le L⟩)
  refine ⟨h1, ?_, L⟩
  simp only [Rel, env]
  exact ⟨w.heap.size, by rw [← S.len]; simp, rfl⟩
theorem run_box {P : Program} (T : TypeId) (u : Value) (w : World) : (Instr.box T u).run P w = .ok (.pointer (some ⟨w.heap.size, 0, none⟩)) (w.alloc (.cells u.cells T)) := by
  simp [Instr.box, newVar, newRow, newObj, Sem.run]
/-- What a constant says. -/
def ofCell : Value → Option V
  | .bool b => some (.bool b)
  | .int k n => some (.int k n)
  | .string s => some (.str s)
  | .slice none 0 0 => some .nil
  | .pointer none => some .nilptr
  | .nilFunc => some .nilfn
  | .nilIface => some .nilif
  | _ => none
def ofCells : List Value → Option (List V)
  | [] => some []
  | c :: cs => match ofCell c, ofCells cs with
    | some x, some xs => some (x :: xs)
    | _, _ => none
def ofValue (v : Value) : Option V :=
  match v with
  | .agg cs => match ofCells cs.toList with
    | some xs => some (.agg xs)
    | none => none
  | .tuple vs => if vs.size = 0 then some (.tup []) else none
  | v => ofCell v
theorem ofCell_sound {E : Env} {v : Value} {x : V} (h : ofCell v = some x) : Rel E x v := by
  unfold ofCell at h
  split at h <;> simp_all <;> subst h <;> simp only [Rel]
theorem ofCells_sound {E : Env} : ∀ {vs : List Value} {xs : List V}, ofCells vs = some xs → RelL E xs vs
  | [], xs, h => by simp only [ofCells, Option.some.injEq] at h; subst h; simp only [RelL]
  | c :: cs, xs, h => by
    simp only [ofCells] at h
    split at h
    · rename_i x xs' h1 h2
      simp only [Option.some.injEq] at h; subst h
      simp only [RelL]
      exact ⟨c, cs, rfl, ofCell_sound h1, ofCells_sound h2⟩
    · cases h
theorem ofValue_sound {E : Env} {v : Value} {x : V} (h : ofValue v = some x) : Rel E x v := by
  unfold ofValue at h
  split at h
  · rename_i cs
    split at h
    · rename_i xs hx
      simp only [Option.some.injEq] at h; subst h
      simp only [Rel]
      exact ⟨cs, rfl, ofCells_sound hx⟩
    · cases h
  · rename_i vs
    split at h
    · rename_i h0
      simp only [Option.some.injEq] at h; subst h
      simp only [Rel, RelL]
      exact ⟨vs, rfl, by simpa using h0⟩
    · cases h
  · exact ofCell_sound h
def zeroV (P : Program) (T : TypeId) : Option (List V) :=
  match P.info? T with
  | some i => match i.zero with
    | some z => match ofValue z with
      | some (.agg cs) => some cs
      | some (.tup _) => none
      | some x => some [x]
      | none => none
    | none => none
  | none => none
theorem ofCell_cells {v : Value} {x : V} (h : ofCell v = some x) : v.cells = #[v] := by
  unfold ofCell at h
  split at h <;> simp_all [Value.cells]
theorem zeroV_sound {P : Program} {E : Env} {T : TypeId} {cs : List V} (h : zeroV P T = some cs) : ∃ z, (∀ w, (zeroValue T).run P w = .ok z w) ∧ RelL E cs z.cells.toList := by
  unfold zeroV at h
  split at h
  · rename_i i hi
    split at h
    · rename_i z hz
      refine ⟨z, fun w => by simp [zeroValue, typeInfo, hi, hz], ?_⟩
      split at h
      · rename_i xs hx
        simp only [Option.some.injEq] at h; subst h
        have := ofValue_sound (E := E) hx
        simp only [Rel] at this
        obtain ⟨vs, rfl, hR⟩ := this
        exact hR
      · cases h
      · rename_i x hx ht hx'
        simp only [Option.some.injEq] at h; subst h
        have hr := ofValue_sound (E := E) hx'
        have hc : z.cells = #[z] := by
          unfold ofValue at hx'
          split at hx'
          · split at hx'
            · simp only [Option.some.injEq] at hx'; exact absurd hx'.symm (hx _)
            · cases hx'
          · split at hx'
            · simp only [Option.some.injEq] at hx'; exact absurd hx'.symm (ht _)
            · cases hx'
          · exact ofCell_cells hx'
        rw [hc]
        simp only [RelL]
        exact ⟨z, [], rfl, hr, rfl⟩
      · cases h
    · cases h
  · cases h
theorem alloc_op_sound {P : Program} {C : Ctx} {s : St} {m : List Value} {a : Act} {w : World} (S : Sim C s m a w) {T : TypeId} {cs : List V} (h : zeroV P T = some cs) :
    ∃ u m' w', (Instr.alloc T true (.tuple #[])).run P w = .ok u w' ∧ Sim C ⟨s.t, s.h ++ [.box T cs]⟩ m' a w' ∧ Rel (env C (s.h ++ [.box T cs]) m' w') (.ptr s.h.length 0) u ∧ Up (env C s.h m w) (env C (s.h ++ [.box T cs]) m' w') := by
  obtain ⟨z, hz, hR⟩ := zeroV_sound (E := env C s.h m w) h
  obtain ⟨h1, h2, h3⟩ := box_sim S T hR
  refine ⟨_, _, _, ?_, h1, h2, h3⟩
  simp [Instr.alloc, hz, newVar, newRow, newObj, Sem.run]
/-! ### store -/
def splice (l : List V) (off : Nat) (xs : List V) : List V := l.take off ++ xs ++ l.drop (off + xs.length)
def storeH (P : Program) (h : List AObj) (T : TypeId) (p v : V) : Option (List AObj) :=
  match flat h v with
  | none => none
  | some xs =>
    if kindT P T = none ∨ xs.length ≠ sizeT P T then none else
    match p with
    | .ptr i off => match h[i]? with
      | some (.box T0 cs) => if off + xs.length ≤ cs.length then some (h.set i (.box T0 (splice cs off xs))) else none
      | _ => none
    | .aptr i n r off => match h[i]? with
      | some (.arr T0 sz rows false) => if n = rows.length then
          (match rows[r]? with
          | some row => if off + xs.length ≤ row.length then some (h.set i (.arr T0 sz (rows.set r (splice row off xs)) false)) else none
          | none => none) else none
      | _ => none
    | _ => none
theorem grownBy_setRow {w : World} {g : Nat} (cs : Array Value) : w.grownBy (w.setRow g cs) (some g) :=
  ⟨by simp, by simp, by simp, by simp, fun k hk hne => setRow_other w g k cs (fun e => hne (by rw [e]))⟩
theorem run_storeAt {P : Program} {T : TypeId} (hk : kindT P T ≠ none) {w : World} {g o : Nat} {t : TypeId} {cr : Array Value} {u : Value} (hn : u.cells.toList.length = sizeT P T) (hg : w.heap[g]? = some (.cells cr t (0, 0)))
    (hle : o + u.cells.toList.length ≤ cr.size) (h1 : ∀ v ∈ u.cells.toList, v.oneCell' = true) :
    (Instr.storeAt T (.pointer (some ⟨g, o, none⟩)) u).run P w = .ok () (w.setRow g (cr.toList.take o ++ u.cells.toList ++ cr.toList.drop (o + u.cells.toList.length)).toArray) := by
  cases hkk : kindT P T with
  | none => exact absurd hkk hk
  | some b =>
    have hs : u.cells.size = sizeT P T := by rw [← hn]; simp
    simp only [Instr.storeAt, Instr.sureAddr, Sem.run_bind, Sem.run_pure, Result.andThen_ok, storeVar, run_sizeT hkk, hs, ne_eq, not_true, if_false]
    have := run_storeCells_at (P := P) g o t u.cells.toList 0 cr w hg (by simpa using hle) h1
    simpa using this
theorem RelL.splice {E : Env} {cs xs : List V} {vs us : List Value} {off : Nat} (h : RelL E cs vs) (k : RelL E xs us) : RelL E (splice cs off xs) (vs.take off ++ us ++ vs.drop (off + us.length)) := by
  unfold Ab.splice
  rw [k.length]
  exact ((h.take off).append k).append (h.drop _)
theorem flatten_length : ∀ (rows : List (List V)) (sz : Nat), (∀ x ∈ rows, x.length = sz) → rows.flatten.length = rows.length * sz
  | [], sz, _ => by simp
  | r :: rs, sz, h => by
    simp only [List.flatten_cons, List.length_append, List.length_cons, flatten_length rs sz (fun x hx => h x (by simp [hx])), h r (by simp), Nat.succ_mul]
    omega
theorem flatten_splice : ∀ (rows : List (List V)) (sz r off : Nat) (row xs : List V), (∀ x ∈ rows, x.length = sz) → rows[r]? = some row → off + xs.length ≤ row.length →
    (rows.set r (splice row off xs)).flatten = splice rows.flatten (r * sz + off) xs
  | [], sz, r, off, row, xs, _, h, _ => by simp at h
  | y :: rows, sz, r, off, row, xs, hs, h, hle => by
    have hy : y.length = sz := hs y (by simp)
    cases r with
    | zero =>
      simp at h; subst h
      simp only [List.set_cons_zero, List.flatten_cons, Nat.zero_mul, Nat.zero_add, splice]
      rw [List.take_append_of_le_length (by omega), List.drop_append_of_le_length (by omega)]
      simp only [List.append_assoc]
    | succ r =>
      simp at h
      have ih := flatten_splice rows sz r off row xs (fun x hx => hs x (by simp [hx])) h hle
      simp only [List.set_cons_succ, List.flatten_cons]
      rw [ih]
      simp only [splice]
      rw [Nat.succ_mul, show r * sz + sz + off = y.length + (r * sz + off) by omega, List.take_length_add_append,
        show y.length + (r * sz + off) + xs.length = y.length + (r * sz + off + xs.length) by omega, List.drop_length_add_append]
      simp only [List.append_assoc]
theorem splice_length {l xs : List V} {off : Nat} (h : off + xs.length ≤ l.length) : (splice l off xs).length = l.length := by
  simp only [splice, List.length_append, List.length_take, List.length_drop]; omega
theorem store_sound {P : Program} {C : Ctx} {s : St} {m : List Value} {a : Act} {w : World} (S : Sim C s m a w) {T : TypeId} {p v : V} {up uv : Value} {h' : List AObj} (hp : Rel (env C s.h m w) p up) (hv : Rel (env C s.h m w) v uv)
    (hs : storeH P s.h T p v = some h') : ∃ m' w', (Instr.storeAt T up uv).run P w = .ok () w' ∧ Sim C ⟨s.t, h'⟩ m' a w' ∧ Up (env C s.h m w) (env C h' m' w') := by
  unfold storeH at hs
  split at hs
  · cases hs
  rename_i xs hf
  obtain ⟨hR, hone⟩ := flat_sound S hv hf
  have hlen := hR.length
  have hlen' : xs.length = uv.cells.size := by simpa using hlen
  split at hs
  · cases hs
  rename_i hcond
  have hk : kindT P T ≠ none := fun e => hcond (.inl e)
  have hsz : xs.length = sizeT P T := Classical.byContradiction fun e => hcond (.inr e)
  split at hs
  · rename_i i off
    split at hs
    · rename_i T0 cs ho
      split at hs
      · rename_i hle
        simp only [Option.some.injEq] at hs; subst hs
        simp only [Rel] at hp
        obtain ⟨b, hm, rfl⟩ := hp
        obtain ⟨b', vs, he, hb, hh, hRc⟩ := S.objs i _ _ ho hm
        cases he
        simp only [env] at hh
        have hl2 := hRc.length
        have hlv : vs.toList.length = vs.size := by simp
        have hrun := run_storeAt (P := P) (u := uv) hk (by omega) hh (o := off) (by omega) hone
        obtain ⟨h1, L⟩ := S.turn (o' := .box T0 (splice cs off xs)) (v' := .pointer (some ⟨b, 0, none⟩)) ho hm rfl (.inl ⟨T0, cs, _, rfl, rfl, rfl⟩) (show w.grownBy (w.setRow b (vs.toList.take off ++ uv.cells.toList ++ vs.toList.drop (off + uv.cells.toList.length)).toArray) (some b) from grownBy_setRow _) (.inl rfl)
          (fun L => ⟨b, _, rfl, hb, setRow_heap w b vs _ T0 (0, 0) hh, by
            have := (RelL.splice (off := off) (hRc.le L) (hR.le L))
            simpa using this⟩)
        exact ⟨_, _, hrun, h1, L⟩
      · cases hs
    · cases hs
  · rename_i i n r off
    split at hs
    · rename_i T0 sz rows ho
      split at hs
      · rename_i hn
        split at hs
        · rename_i row hr
          split at hs
          · rename_i hle
            simp only [Option.some.injEq] at hs; subst hs
            simp only [Rel] at hp
            obtain ⟨g, cap, hm, rfl⟩ := (hp.2 _ _ _ _ ho).2 hn
            simp only [env] at hm
            obtain ⟨us, ⟨h0, h1⟩, hRc, hrows⟩ := S.objs i _ _ ho hm
            rcases h1 with ⟨he, _⟩ | ⟨g', cap', cr, he, hg, hh, hnc, hcap, hcur, htake⟩
            · cases he
            cases he
            simp only [env] at hh
            have hrl : row.length = sz := hrows row (List.mem_of_getElem? hr)
            have hlt : r < rows.length := (List.getElem?_eq_some_iff.1 hr).1
            have hpos : r * sz + sz ≤ rows.length * sz := by rw [← Nat.succ_mul]; exact Nat.mul_le_mul_right _ hlt
            have hcap' : rows.length * sz ≤ cap * sz := Nat.mul_le_mul_right _ hnc
            have hrun := run_storeAt (P := P) (u := uv) hk (by omega) hh (o := r * sz + off) (by omega) hone
            have hus : us.length = rows.length * sz := h0
            obtain ⟨h1, L⟩ := S.turn (o' := .arr T0 sz (rows.set r (splice row off xs)) false) (v' := .slice (some ⟨g, 0, none⟩) rows.length cap) ho hm rfl (.inr (.inl ⟨T0, sz, rows, _, false, false, rfl, rfl, by simp, fun _ => rfl⟩))
              (show w.grownBy (w.setRow g (cr.toList.take (r * sz + off) ++ uv.cells.toList ++ cr.toList.drop (r * sz + off + uv.cells.toList.length)).toArray) (some g) from grownBy_setRow _) (.inl rfl)
              (fun L => ⟨us.take (r * sz + off) ++ uv.cells.toList ++ us.drop (r * sz + off + uv.cells.toList.length), ⟨by
                  simp only [List.length_append, List.length_take, List.length_drop, List.length_set, hus]; omega,
                .inr ⟨g, cap, _, by simp, hg, setRow_heap w g cr _ T0 (0, 0) hh, by simpa using hnc, hcap, by
                  simp only [List.size_toArray, List.length_append, List.length_take, List.length_drop, Array.length_toList, hcur]; omega, by
                  rw [← htake]
                  simp only [List.length_set]
                  have e1 : (cr.toList.take (r * sz + off)).length = r * sz + off := by simp; omega
                  have e2 : (cr.toList.take (r * sz + off) ++ uv.cells.toList).length = r * sz + off + uv.cells.toList.length := by rw [List.length_append, e1]
                  rw [List.take_append, List.take_of_length_le (by rw [e2]; omega), e2, List.take_take, Nat.min_eq_left (by omega), List.drop_take]⟩⟩, by
                rw [flatten_splice rows sz r off row xs hrows hr hle]
                exact RelL.splice (hRc.le L) (hR.le L), fun x hx => by
                  rcases List.mem_or_eq_of_mem_set hx with hx | rfl
                  · exact hrows x hx
                  · rw [splice_length hle, hrl]⟩)
            exact ⟨_, _, hrun, h1, L⟩
          · cases hs
        · cases hs
      · cases hs
    · cases hs
  · cases hs
end Go.Ab
namespace Go.Ab
open Go Go.RowKit
set_option linter.unusedVariables false

/-! ### composite values -/
def placesT (P : Program) (T : TypeId) : Option (List (Nat × Nat)) :=
  match P.underlying T with
  | some (.struct fs) => fs.toList.mapM (fun f => (P.info? f.type).map fun i => (f.offset, i.size))
  | some (.array n e) => (P.info? e).map fun i => (List.range n).map fun k => (k * i.size, i.size)
  | _ => none
def fillV (h : List AObj) (pl : List (Nat × Nat)) (cells : List V) : List (Nat × V) → Option (List V)
  | [] => some cells
  | (i, v) :: rest => match pl[i]?, flat h v with
    | some (off, size), some xs => if xs.length = size ∧ off + xs.length ≤ cells.length then fillV h pl (splice cells off xs) rest else none
    | _, _ => none
theorem foldl_fill (off : Nat) : ∀ (l : List Value) (k : Nat) (cs : Array Value), off + k + l.length ≤ cs.size →
    ((l.zipIdx k).foldl (fun cs (p : Value × Nat) => cs.setIfInBounds (off + p.2) p.1) cs).toList = cs.toList.take (off + k) ++ l ++ cs.toList.drop (off + k + l.length)
  | [], k, cs, _ => by simp
  | v :: l, k, cs, h => by
    simp only [List.zipIdx_cons, List.foldl_cons]
    rw [foldl_fill off l (k + 1) _ (by simp at h ⊢; omega)]
    have hk : off + k < cs.toList.length := by simp at h ⊢; omega
    simp only [Array.toList_setIfInBounds, List.length_cons]
    rw [← Nat.add_assoc, List.take_succ_eq_append_getElem (by simpa using hk)]
    rw [List.take_set_of_le (Nat.le_refl _), List.drop_set_of_lt (by omega)]
    simp [Nat.add_assoc, Nat.add_comm 1]
theorem fillV_sound {C : Ctx} {s : St} {m : List Value} {a : Act} {w : World} (S : Sim C s m a w) {pl : List (Nat × Nat)} {place : Nat → Option (Nat × Nat)} (hpl : ∀ i x, pl[i]? = some x → place i = some x) :
    ∀ {parts : List (Nat × V)} {vparts : List (Nat × Value)} {cells out : List V} {cs : Array Value}, parts.length = vparts.length → (∀ (k : Nat) i v, parts[k]? = some (i, v) → ∃ u, vparts[k]? = some (i, u) ∧ Rel (env C s.h m w) v u) →
      RelL (env C s.h m w) cells cs.toList → (∀ v ∈ cs.toList, v.oneCell' = true) → fillV s.h pl cells parts = some out → ∃ cs', Instr.fill place cs vparts = some cs' ∧ RelL (env C s.h m w) out cs'.toList ∧ (∀ v ∈ cs'.toList, v.oneCell' = true)
  | [], vparts, cells, out, cs, hl, _, hR, h1, hf => by
    obtain rfl : vparts = [] := by cases vparts <;> simp_all
    simp only [fillV, Option.some.injEq] at hf; subst hf
    exact ⟨cs, rfl, hR, h1⟩
  | (i, v) :: rest, vparts, cells, out, cs, hl, hp, hR, h1, hf => by
    obtain ⟨u, hu, hru⟩ := hp 0 i v rfl
    cases vparts with
    | nil => simp at hu
    | cons p vparts =>
      simp at hu; subst hu
      simp only [fillV] at hf
      split at hf
      · rename_i off size xs h2 h3
        split at hf
        · rename_i hc
          obtain ⟨hxs, hone⟩ := flat_sound S hru h3
          have hlx := hxs.length
          have hlc := hR.length
          have hle : off + u.cells.size ≤ cs.size := by simp at hlx hlc; omega
          have hfold := foldl_fill off u.cells.toList 0 cs (by simpa using hle)
          have harr : u.cells.zipIdx.foldl (fun cs (c, j) => cs.setIfInBounds (off + j) c) cs = (u.cells.toList.zipIdx.foldl (fun cs (p : Value × Nat) => cs.setIfInBounds (off + p.2) p.1) cs) := by
            rw [← Array.foldl_toList, Array.toList_zipIdx]
          have hnew : RelL (env C s.h m w) (splice cells off xs) (u.cells.zipIdx.foldl (fun cs (c, j) => cs.setIfInBounds (off + j) c) cs).toList := by
            rw [harr, hfold]
            simpa using RelL.splice (off := off) hR hxs
          obtain ⟨cs', hcs, hout, hout1⟩ := fillV_sound S hpl (parts := rest) (vparts := vparts) (by simpa using hl) (fun k i v hk => by have := hp (k + 1) i v (by simpa using hk); simpa using this) hnew (fun v hv => by
            rw [harr, hfold] at hv
            simp only [List.mem_append] at hv
            rcases hv with (hv | hv) | hv
            · exact h1 v (List.mem_of_mem_take hv)
            · exact hone v hv
            · exact h1 v (List.mem_of_mem_drop hv)) hf
          refine ⟨cs', ?_, hout, hout1⟩
          have hs : u.cells.size = size := by simp at hlx; omega
          simp only [Instr.fill, hpl i _ h2]
          rw [if_neg (by simp only [ne_eq, Bool.or_eq_true, decide_eq_true_eq]; omega)]
          exact hcs
        · cases hf
      · cases hf
theorem zeroV_info {P : Program} {E : Env} {T : TypeId} {cs : List V} (h : zeroV P T = some cs) : ∃ it z, P.info? T = some it ∧ it.zero = some z ∧ RelL E cs z.cells.toList := by
  obtain ⟨z, hz, hR⟩ := zeroV_sound (E := E) h
  unfold zeroV at h
  split at h
  · rename_i i hi
    split at h
    · rename_i z' hz'
      have := hz default
      simp [zeroValue, typeInfo, hi, hz'] at this
      subst this
      exact ⟨i, _, hi, hz', hR⟩
    · cases h
  · cases h
def buildV (P : Program) (h : List AObj) (T : TypeId) (parts : List (Nat × V)) : Option V :=
  match placesT P T, zeroV P T with
  | some pl, some zs => if zs.all (V.one h) then (match fillV h pl zs parts with
    | some cs => some (.agg cs)
    | none => none) else none
  | _, _ => none
theorem built_of {P : Program} {T : TypeId} {pl : List (Nat × Nat)} (h : placesT P T = some pl) {it : TypeInfo} {z : Value} (hi : P.info? T = some it) (hz : it.zero = some z) :
    ∃ place : Nat → Option (Nat × Nat), (∀ i x, pl[i]? = some x → place i = some x) ∧ ∀ vparts, P.built T vparts = Instr.fill place z.cells vparts := by
  unfold placesT at h
  split at h
  · rename_i fs hu
    exact ⟨(pl.toArray[·]?), fun i x hx => by simpa using hx, fun vparts => by simp [Program.built, hi, hu, hz, h]⟩
  · rename_i n e hu
    cases he : P.info? e with
    | none => simp [he] at h
    | some ie =>
      simp only [he, Option.map_some, Option.some.injEq] at h; subst h
      refine ⟨fun i => some (i * ie.size, ie.size), fun i x hx => ?_, fun vparts => by simp [Program.built, hi, hu, hz, he]⟩
      simp only [List.getElem?_map] at hx
      cases hr : (List.range n)[i]? with
      | none => simp [hr] at hx
      | some k =>
        obtain ⟨hlt, hek⟩ := List.getElem?_eq_some_iff.1 hr
        have : i = k := by simpa using hek
        subst this
        simpa [hr] using hx
  · cases h
theorem buildV_sound {P : Program} {C : Ctx} {s : St} {m : List Value} {a : Act} {w : World} (S : Sim C s m a w) {T : TypeId} {parts : List (Nat × V)} {vparts : List (Nat × Value)} {y : V} (hl : parts.length = vparts.length)
    (hp : ∀ (k : Nat) i v, parts[k]? = some (i, v) → ∃ u, vparts[k]? = some (i, u) ∧ Rel (env C s.h m w) v u) (hb : buildV P s.h T parts = some y) :
    ∃ u', (Instr.build T vparts.toArray).run P w = .ok u' w ∧ Rel (env C s.h m w) y u' := by
  unfold buildV at hb
  split at hb
  · rename_i pl zs h1 h2
    split at hb
    · rename_i hall
      split at hb
      · rename_i cs hf
        simp only [Option.some.injEq] at hb; subst hb
        obtain ⟨it, z, hi, hz, hR⟩ := zeroV_info (E := env C s.h m w) h2
        obtain ⟨place, hpl, hbuilt⟩ := built_of h1 hi hz
        obtain ⟨cs', hcs, hout, _⟩ := fillV_sound S hpl hl hp hR (RelL.one S hR hall) hf
        refine ⟨.agg cs', ?_, ?_⟩
        · exact run_build w T vparts.toArray cs' (by rw [show vparts.toArray.toList = vparts from rfl, hbuilt]; exact hcs)
        · simp only [Rel]; exact ⟨cs', rfl, hout⟩
      · cases hb
    · cases hb
  · cases hb
end Go.Ab
namespace Go.Ab
open Go Go.RowKit
set_option linter.unusedVariables false

/-! ### slices: literals, make, append, len -/
def chunk (sz : Nat) : Nat → List V → List (List V)
  | 0, _ => []
  | n + 1, l => l.take sz :: chunk sz n (l.drop sz)
def rep (n : Nat) (zs : List V) : List V :=
  match n with
  | 0 => []
  | n + 1 => zs ++ rep n zs
theorem chunk_length (sz : Nat) : ∀ (n : Nat) (l : List V), (chunk sz n l).length = n
  | 0, l => rfl
  | n + 1, l => by simp [chunk, chunk_length sz n]
theorem RelRows.chunk {E : Env} {ad : Addr} {sz : Nat} : ∀ (n : Nat) {l : List V} {k : Nat}, l.length = n * sz → RelCells E ad k l → RelRows E ad sz k (chunk sz n l)
  | 0, l, k, _, _ => by simp only [Ab.chunk, RelRows]
  | n + 1, l, k, hl, h => by
    have hlen : sz ≤ l.length := by rw [hl, Nat.succ_mul]; omega
    have htake : ∀ (j : Nat) {l : List V} {k : Nat}, RelCells E ad k l → RelCells E ad k (l.take j) := by
      intro j
      induction j with
      | zero => intro l k _; simp only [List.take_zero, RelCells]
      | succ j ih =>
        intro l k h
        cases l with
        | nil => simp only [List.take_nil, RelCells]
        | cons c cs => simp only [List.take_succ_cons, RelCells] at *; exact ⟨h.1, ih h.2⟩
    simp only [Ab.chunk, RelRows]
    refine ⟨by simp; omega, htake sz h, RelRows.chunk n (by simp [hl, Nat.succ_mul]) (RelCells.drop sz h)⟩
theorem RelL.rep {E : Env} {zs : List V} {vs : List Value} (h : RelL E zs vs) : ∀ n, ∃ us, RelL E (rep n zs) us ∧ us.length = n * vs.length ∧ ∀ j, j < n * vs.length → us[j]? = vs[j % vs.length]?
  | 0 => ⟨[], by simp only [Ab.rep, RelL], by simp, fun j hj => by simp at hj⟩
  | n + 1 => by
    obtain ⟨us, h1, h2, h3⟩ := RelL.rep h n
    refine ⟨vs ++ us, by simp only [Ab.rep]; exact h.append h1, by simp [h2, Nat.succ_mul]; omega, fun j hj => ?_⟩
    rcases Nat.lt_or_ge j vs.length with hlt | hge
    · rw [List.getElem?_append_left hlt, Nat.mod_eq_of_lt hlt]
    · rw [List.getElem?_append_right hge, h3 _ (by rw [Nat.succ_mul] at hj; omega), ← Nat.mod_eq_sub_mod hge]
theorem cells_of_made {z : Array Value} {sz n : Nat} {us : List Value} (hz : z.size = sz) (h2 : us.length = n * sz) (h3 : ∀ j, j < n * sz → us[j]? = z.toList[j % sz]?) : ((Array.range (n * sz)).map (z[· % z.size]!)).toList = us := by
  apply List.ext_getElem?
  intro j
  rcases Nat.lt_or_ge j (n * sz) with hj | hj
  · rw [h3 j hj]
    have hpos : 0 < sz := Nat.pos_of_ne_zero (fun e => by simp [e] at hj)
    have hm : j % sz < z.size := by rw [hz]; exact Nat.mod_lt _ hpos
    simp [hj, hz, Array.getElem!_eq_getD]
    rw [Array.getElem?_eq_getElem hm]; rfl
  · rw [List.getElem?_eq_none (by simp; omega), List.getElem?_eq_none (by omega)]
def litV (P : Program) (h : List AObj) (T n : Nat) (parts : List (Nat × V)) : Option V :=
  match elemT P T with
  | some (E, sz) => match zeroV P E with
    | some zs => if zs.length = sz ∧ n * sz ≤ 16777216 ∧ 0 < n ∧ zs.all (V.one h) then
        (match fillV h ((List.range n).map fun k => (k * sz, sz)) (rep n zs) parts with
        | some cs => if cs.length = n * sz then some (.sl sz (chunk sz n cs)) else none
        | none => none) else none
    | none => none
  | none => none
theorem litV_sound {P : Program} {C : Ctx} {s : St} {m : List Value} {a : Act} {w : World} (S : Sim C s m a w) {T n : Nat} {parts : List (Nat × V)} {vparts : List (Nat × Value)} {y : V} (hl : parts.length = vparts.length)
    (hp : ∀ (k : Nat) i v, parts[k]? = some (i, v) → ∃ u, vparts[k]? = some (i, u) ∧ Rel (env C s.h m w) v u) (hb : litV P s.h T n parts = some y) :
    ∃ u' w', (Instr.buildSlice T n vparts.toArray).run P w = .ok u' w' ∧ Sim C s m a w' ∧ Rel (env C s.h m w') y u' ∧ Up (env C s.h m w) (env C s.h m w') := by
  unfold litV at hb
  split at hb
  case h_2 => cases hb
  rename_i E sz he
  obtain ⟨hu, hsz, hnz⟩ := elemT_spec he
  split at hb
  case h_2 => cases hb
  rename_i zs hz
  split at hb
  case isFalse => cases hb
  rename_i hc
  obtain ⟨hzl, hbig, hpos, hall⟩ := hc
  split at hb
  case h_2 => cases hb
  rename_i cs hf
  split at hb
  case isFalse => cases hb
  rename_i hcl
  simp only [Option.some.injEq] at hb; subst hb
  obtain ⟨z, hzr, hR⟩ := zeroV_sound (E := env C s.h m w) hz
  have hzs := hR.length
  obtain ⟨us, h1, h2, h3⟩ := hR.rep n
  have hzsz : z.cells.size = sz := by simp at hzs; omega
  have hmade := cells_of_made (z := z.cells) (sz := sz) (n := n) hzsz (by simpa [hzsz] using h2) (fun j hj => by have := h3 j (by simpa [hzsz] using hj); simpa [hzsz] using this)
  have h1' : RelL (env C s.h m w) (rep n zs) ((Array.range (n * sz)).map (z.cells[· % z.cells.size]!)).toList := by rw [hmade]; exact h1
  have hone : ∀ v ∈ ((Array.range (n * sz)).map (z.cells[· % z.cells.size]!)).toList, v.oneCell' = true := by
    rw [hmade]
    refine RelL.one S h1 ?_
    have hrep : ∀ n, (rep n zs).all (V.one s.h) = true := fun n => by
      induction n with
      | zero => simp [rep]
      | succ n ih => simp only [rep, List.all_append, hall, ih, Bool.and_self]
    exact hrep n
  obtain ⟨cs', hcs, hout, hout1⟩ := fillV_sound S (place := fun i => some (i * sz, sz)) (fun i x hx => by
    simp only [List.getElem?_map] at hx
    cases hr : (List.range n)[i]? with
    | none => simp [hr] at hx
    | some k =>
      obtain ⟨hlt, hek⟩ := List.getElem?_eq_some_iff.1 hr
      have : i = k := by simpa using hek
      subst this
      simpa [hr] using hx) hl hp h1' hone hf
  have hso : (sizeOf E).run P w = .ok sz w := by rw [← hsz]; exact cellsOf_info (by rw [hsz]; exact hnz) w
  have hnsz : ¬ n * sz = 0 := by
    intro e
    rcases Nat.mul_eq_zero.1 e with e | e <;> omega
  have hbel := below_alloc' w (.cells cs' E)
  refine ⟨.slice (some ⟨w.heap.size, 0, none⟩) n n, w.alloc (.cells cs' E), ?_, S.world hbel, ?_, up_world hbel⟩
  · simp only [Instr.buildSlice, Sem.run_bind, run_underlying hu, Result.andThen_ok, hso]
    rw [if_neg (by omega)]
    simp only [hnsz, if_false, Sem.run_bind, hzr, Result.andThen_ok, Sem.run_pure, hcs]
    simp [newRow, newObj, Sem.run]
  · have S' := S.world hbel
    have L : Env.Le (fun _ => true) (env C s.h m w) (env C s.h m (w.alloc (.cells cs' E))) :=
      ⟨fun b _ h => h, fun b hb' _ => hbel.block b hb', hbel.size, fun i _ v h _ => h, fun i _ h => ⟨h, fun T sz rows fr ho => ⟨T, rows, fr, ho, Nat.le_refl _, fun _ => rfl⟩⟩, fun i _ T sz rows ho => ⟨rows, ho, Nat.le_refl _, fun _ => rfl⟩⟩
    simp only [Rel, chunk_length]
    refine ⟨_, n, rfl, ⟨Nat.le_refl _, ?_⟩, .inr ⟨_, rfl, ?_, ?_, RelRows.chunk n hcl (RelCells.of (hout.le L) (fun j v hj => ?_))⟩⟩
    · have : n * 1 ≤ n * sz := Nat.mul_le_mul_left n (by omega)
      omega
    · rintro (hb | ⟨i, o, v, _, _, h3, h4⟩)
      · exact absurd (S.out _ hb) (by have := S.below.size; simp; omega)
      · have := (S.low i v _ h3 h4).2
        simp at this
    · simp [env, World.size_alloc]
    · rw [add_at]
      simp only [env, World.cell?, alloc_new]
      simpa using hj
end Go.Ab
namespace Go.Ab
open Go Go.RowKit
set_option linter.unusedVariables false

theorem flatten_replicate_one {α : Type} (x : α) : ∀ n, (List.replicate n [x]).flatten = List.replicate n x
  | 0 => rfl
  | n + 1 => by simp [List.replicate_succ, flatten_replicate_one x n]
theorem RelL.replicate {E : Env} {x : V} {u : Value} (h : Rel E x u) : ∀ n, RelL E (List.replicate n x) (List.replicate n u)
  | 0 => by simp only [List.replicate_zero, RelL]
  | n + 1 => by simp only [List.replicate_succ, RelL]; exact ⟨u, _, rfl, h, RelL.replicate h n⟩
def zero1 (P : Program) (T : TypeId) : Option V :=
  match P.info? T with
  | some i => match i.zero with
    | some z => ofCell z
    | none => none
  | none => none
theorem zero1_info {P : Program} {E : Env} {T : TypeId} {x : V} (h : zero1 P T = some x) : ∃ it z, P.info? T = some it ∧ it.zero = some z ∧ Rel E x z ∧ z.cells = #[z] := by
  unfold zero1 at h
  split at h
  · rename_i i hi
    split at h
    · rename_i z hz
      exact ⟨i, z, hi, hz, ofCell_sound h, ofCell_cells h⟩
    · cases h
  · cases h
def makeV (P : Program) (h : List AObj) (T : TypeId) (n : V) : Option (V × List AObj) :=
  match elemT P T, n with
  | some (E, 1), .int .i64 k => match zero1 P E with
    | some z => if 0 ≤ k ∧ P.bytesOf E * k.toNat ≤ 281474976710656 ∧ k.toNat ≤ 9223372036854775807 then some (.arr h.length k.toNat, h ++ [.arr E 1 (List.replicate k.toNat [z]) false]) else none
    | _ => none
  | _, _ => none
theorem makeV_sound {P : Program} {C : Ctx} {s : St} {m : List Value} {a : Act} {w : World} (S : Sim C s m a w) {T : TypeId} {x y : V} {u : Value} {h' : List AObj} (hx : Rel (env C s.h m w) x u) (hb : makeV P s.h T x = some (y, h')) :
    ∃ u' m' w', (Instr.makeSlice T u u).run P w = .ok u' w' ∧ Sim C ⟨s.t, h'⟩ m' a w' ∧ Rel (env C h' m' w') y u' ∧ Up (env C s.h m w) (env C h' m' w') := by
  unfold makeV at hb
  split at hb
  case h_2 => cases hb
  rename_i E k he
  obtain ⟨hu, hsz, hnz⟩ := elemT_spec he
  split at hb
  case h_2 => cases hb
  rename_i z hz
  split at hb
  case isFalse => cases hb
  rename_i hc
  simp only [Option.some.injEq, Prod.mk.injEq] at hb
  obtain ⟨rfl, rfl⟩ := hb
  simp only [Rel] at hx; subst hx
  obtain ⟨it, zv, hi, hzv, hr, hcells⟩ := zero1_info (E := env C s.h m w) hz
  have hsize : it.size = 1 := by
    unfold Program.cellsOf at hsz
    simpa [hi] using hsz
  have hbytes : it.bytes = P.bytesOf E := by simp [Program.bytesOf, hi]
  have hk : (k.toNat : Int) = k := by omega
  have hrun := run_make_row (P := P) T E it zv hu hi hzv hsize hcells .i64 .i64 k.toNat (by rw [hbytes]; exact hc.2.1) hc.2.2 w
  rw [hk] at hrun
  have hown := World.ownsRow_lit (base := C.w0.heap.size) (e := E) (size := 1) w (madeCells #[zv] k.toNat) k.toNat S.below.size (by unfold maxLen; exact hc.2.2) (by simp [size_madeCells])
  have hml : (madeCells #[zv] k.toNat).toList = List.replicate k.toNat zv := by
    apply List.ext_getElem
    · simp [madeCells]
    · intro i h1 h2
      simp [madeCells, Nat.mod_one]
  obtain ⟨h1, L⟩ := S.add (o := .arr E 1 (List.replicate k.toNat [z]) false) (v := .slice (some ⟨w.heap.size, 0, none⟩) k.toNat k.toNat) (below_alloc' w (.cells (madeCells #[zv] k.toNat) E))
    (fun b hb => by simp only [blk, Option.some.injEq] at hb; subst hb; exact ⟨Nat.le_refl _, by rw [size_alloc']; omega⟩)
    (fun L => ⟨(madeCells #[zv] k.toNat).toList, by simpa [env] using hown, by rw [flatten_replicate_one, hml]; exact RelL.replicate (hr.le L) _, fun r hr => by rw [List.eq_of_mem_replicate hr]; rfl⟩)
  refine ⟨_, _, _, hrun, h1, ?_, L⟩
  simp only [Rel, env]
  refine ⟨by simp, fun T0 sz rows fr ho => ?_⟩
  simp at ho
  obtain ⟨rfl, rfl, rfl, rfl⟩ := ho
  exact ⟨by simp, fun _ => by rw [← S.len]; simp⟩
theorem RelRows.values {E : Env} {ad : Addr} {sz : Nat} : ∀ {rows : List (List V)} {k : Nat}, RelRows E ad sz k rows → ∃ vs, RelL E rows.flatten vs ∧ vs.length = rows.length * sz ∧ ∀ j v, vs[j]? = some v → E.w.cell? (ad.add (k + j)) = some v
  | [], k, _ => ⟨[], by simp [RelL], by simp, by simp⟩
  | r :: rs, k, h => by
    simp only [RelRows] at h
    obtain ⟨h0, h1, h2⟩ := h
    obtain ⟨vs, hv, hc⟩ := RelCells.values h1
    obtain ⟨us, hu, hl, hcu⟩ := RelRows.values h2
    have hvl := hv.length
    refine ⟨vs ++ us, by simpa using hv.append hu, by simp [hl, Nat.succ_mul]; omega, fun j v hj => ?_⟩
    rcases Nat.lt_or_ge j vs.length with hlt | hge
    · rw [List.getElem?_append_left hlt] at hj; exact hc j v hj
    · rw [List.getElem?_append_right hge] at hj
      have := hcu _ v hj
      rwa [show k + sz + (j - vs.length) = k + j by omega] at this
theorem RelRows.lens {E : Env} {ad : Addr} {sz : Nat} : ∀ {rows : List (List V)} {k : Nat}, RelRows E ad sz k rows → ∀ r ∈ rows, r.length = sz
  | [], k, _ => by simp
  | r :: rs, k, h => by
    simp only [RelRows] at h
    intro x hx
    simp at hx
    rcases hx with rfl | hx
    · exact h.1
    · exact RelRows.lens h.2.2 x hx
def srcRows (h : List AObj) (sz : Nat) : V → Option (List (List V))
  | .nil => some []
  | .sl sz' rows => if sz' = sz then some rows else none
  | .arr i n => match h[i]? with
    | some (.arr _ sz' rows _) => if n = rows.length ∧ sz' = sz then some rows else none
    | _ => none
  | _ => none
theorem srcRows_sound {C : Ctx} {s : St} {m : List Value} {a : Act} {w : World} (S : Sim C s m a w) {sz : Nat} {x : V} {u : Value} {rows : List (List V)} (hx : Rel (env C s.h m w) x u) (hs : srcRows s.h sz x = some rows) :
    ∃ A c, u = .slice A rows.length c ∧ rows.length ≤ 9223372036854775807 ∧ (∀ r ∈ rows, r.length = sz) ∧ (rows = [] ∨ ∃ ad news, A = some ad ∧ RelL (env C s.h m w) rows.flatten news ∧ news.length = rows.length * sz ∧ ∀ j v, news[j]? = some v → w.cell? (ad.add j) = some v) := by
  cases x with
  | nil =>
    simp only [srcRows, Option.some.injEq] at hs; subst hs
    simp only [Rel] at hx
    exact ⟨none, 0, hx, by simp, by simp, .inl rfl⟩
  | sl sz' rows' =>
    simp only [srcRows] at hs
    split at hs
    · rename_i he; subst he
      simp only [Option.some.injEq] at hs; subst hs
      simp only [Rel] at hx
      obtain ⟨A, c, rfl, hl, h⟩ := hx
      rcases h with h | ⟨ad, rfl, _, _, hR⟩
      · exact ⟨A, c, rfl, hl.2, by simp [h], .inl h⟩
      · refine ⟨_, c, rfl, hl.2, RelRows.lens hR, ?_⟩
        obtain ⟨vs, h1, h2, h3⟩ := RelRows.values hR
        exact .inr ⟨ad, vs, rfl, h1, h2, fun j v hj => by simpa [env] using h3 j v hj⟩
    · cases hs
  | arr i n =>
    simp only [srcRows] at hs
    split at hs
    · rename_i T sz' rows' fr ho
      split at hs
      · rename_i hc
        obtain ⟨hn, rfl⟩ := hc
        simp only [Option.some.injEq] at hs; subst hs
        obtain ⟨_, _, _, _, us, ho', _, hm, hown, hR, hsz⟩ := cur_arr S hx (by simp [cur, ho, hn])
        rw [ho] at ho'; cases ho'
        obtain ⟨A, c, rfl, _, hl, _, hg⟩ := owns_shape hown
        refine ⟨A, c, rfl, hl, hsz, ?_⟩
        rcases rows' with _ | ⟨r, rs⟩
        · exact .inl rfl
        · obtain ⟨g, rfl⟩ := hg (by simp)
          exact .inr ⟨_, us, rfl, hR, hown.1, hown.cells (g := g) rfl⟩
      · cases hs
    · cases hs
  | _ => simp [srcRows] at hs
def appendV (P : Program) (h : List AObj) (T : TypeId) (x y : V) : Option (V × List AObj) :=
  match elemT P T with
  | some (E, sz) => match srcRows h sz y, zeroV P E with
    | some rows, some zs =>
      if zs.length = sz ∧ 0 < P.bytesOf E ∧ rows.flatten.all (V.one h) then
        match rows with
        | [] => match x with
          | .nil => some (.nil, h)
          | .arr i n => match h[i]? with
            | some (.arr E' sz' old false) => if E' = E ∧ sz' = sz ∧ n = old.length then some (.arr i n, h) else none
            | _ => none
          | _ => none
        | rows => match x with
          | .nil => if rows.length * P.bytesOf E ≤ 140737488355328 then some (.arr h.length rows.length, h ++ [.arr E sz rows false]) else none
          | .arr i n => match h[i]? with
            | some (.arr E' sz' old false) => if E' = E ∧ sz' = sz ∧ n = old.length ∧ (old.length + rows.length) * P.bytesOf E ≤ 140737488355328 then
                some (.arr i (n + rows.length), h.set i (.arr E sz (old ++ rows) false)) else none
            | _ => none
          | _ => none
      else none
    | _, _ => none
  | none => none
theorem run_append_zero {P : Program} {w : World} {base : Nat} {t ty e : TypeId} {i : TypeInfo} {size : Nat} (ht : P.underlying t = some (.slice e)) (hi : P.info? e = some i)
    {v : Value} {n : Nat} {xs : List Value} (hown : w.ownsRow base e size v n xs) (A : Option Addr) (c : Nat) :
    (Builtin.append_ #[t, t] ty #[v, .slice A 0 c]).run P w = .ok v w := by
  rcases hown.2 with ⟨rfl, rfl⟩ | ⟨g, cap, cur, rfl, _, _, hnc, _⟩
  · cases A <;> simp [Builtin.append_, run_underlying ht, sizeOf, typeInfo, hi, Builtin.lenOf, Builtin.firstCells, loadCells, loadCellsFrom]
  · cases A <;> simp [Builtin.append_, run_underlying ht, sizeOf, typeInfo, hi, Builtin.lenOf, Builtin.firstCells, loadCells, loadCellsFrom, hnc, storeCells]
theorem ownBlock_blk {w : World} {B : Nat} {T sz n : Nat} {u : Value} {us : List Value} (h : w.ownsRow B T sz u n us) : u.ownBlock = blk u := by
  obtain ⟨A, c, rfl, _⟩ := owns_shape h
  cases A <;> rfl
theorem own_lt' {w : World} {B : Nat} {T sz n : Nat} {u : Value} {us : List Value} (h : w.ownsRow B T sz u n us) {b : Nat} (hb : blk u = some b) : b < w.heap.size := by
  rcases h.2 with ⟨rfl, _⟩ | ⟨g, cap, cur, rfl, _, hh, _⟩
  · simp [blk] at hb
  · simp [blk] at hb; subst hb; exact cells_lt hh
theorem own_ge {w : World} {B : Nat} {T sz n : Nat} {u : Value} {us : List Value} (h : w.ownsRow B T sz u n us) {b : Nat} (hb : blk u = some b) : B ≤ b := by
  rcases h.2 with ⟨rfl, _⟩ | ⟨g, cap, cur, rfl, hg, hh, _⟩
  · simp [blk] at hb
  · simp [blk] at hb; subst hb; exact hg
theorem own_mono {w : World} {B B' : Nat} {T sz n : Nat} {u : Value} {us : List Value} (h : w.ownsRow B T sz u n us) (hb : B' ≤ B) : w.ownsRow B' T sz u n us := by
  refine ⟨h.1, ?_⟩
  rcases h.2 with h2 | ⟨g, cap, cur, h1, hg, h2⟩
  · exact .inl h2
  · exact .inr ⟨g, cap, cur, h1, Nat.le_trans hb hg, h2⟩
theorem own_pos {w : World} {B : Nat} {T sz n : Nat} {u : Value} {us : List Value} (h : w.ownsRow B T sz u n us) (hn : 0 < n) : ∃ b, blk u = some b := by
  rcases h.2 with ⟨rfl, h0⟩ | ⟨g, cap, cur, rfl, _⟩
  · omega
  · exact ⟨g, rfl⟩
theorem appendV_sound {P : Program} {C : Ctx} {s : St} {m : List Value} {a : Act} {w : World} (S : Sim C s m a w) {T ty : TypeId} {x y z : V} {ux uy : Value} {h' : List AObj} (hx : Rel (env C s.h m w) x ux) (hy : Rel (env C s.h m w) y uy)
    (hb : appendV P s.h T x y = some (z, h')) :
    ∃ u' m' w', (Builtin.append_ #[T, T] ty #[ux, uy]).run P w = .ok u' w' ∧ Sim C ⟨s.t, h'⟩ m' a w' ∧ Rel (env C h' m' w') z u' ∧ Up (env C s.h m w) (env C h' m' w') := by
  unfold appendV at hb
  split at hb
  case h_2 => cases hb
  rename_i E sz he
  obtain ⟨hu, hsz, hnz⟩ := elemT_spec he
  split at hb
  case h_2 => cases hb
  rename_i rows zs hsrc hz
  split at hb
  case isFalse => cases hb
  rename_i hc
  obtain ⟨hzl, hbp, hall⟩ := hc
  obtain ⟨A, c, rfl, hlen, hrl, hsr⟩ := srcRows_sound S hy hsrc
  obtain ⟨it, zv, hi, hzv, hR⟩ := zeroV_info (E := env C s.h m w) hz
  have hzsz : zv.cells.size = sz := by have := hR.length; simp at this; omega
  have hsize : it.size = sz := by unfold Program.cellsOf at hsz; simpa [hi] using hsz
  have hbytes : it.bytes = P.bytesOf E := by simp [Program.bytesOf, hi]
  rw [← hbytes] at hbp hb
  split at hb
  · -- nothing is appended
    split at hb
    · simp only [Option.some.injEq, Prod.mk.injEq] at hb
      obtain ⟨rfl, rfl⟩ := hb
      simp only [Rel] at hx; subst hx
      exact ⟨_, m, w, run_append_zero hu hi (World.ownsRow_nil w 0 E 1) A c, S, by simp only [Rel], Up.refl _⟩
    · rename_i i n
      split at hb
      · rename_i E' sz' old ho
        split at hb
        · rename_i hcc
          obtain ⟨rfl, rfl, hn⟩ := hcc
          simp only [Option.some.injEq, Prod.mk.injEq] at hb
          obtain ⟨rfl, rfl⟩ := hb
          obtain ⟨_, _, _, _, us, ho', _, hm, hown, _, _⟩ := cur_arr S hx (by simp [cur, ho, hn])
          rw [ho] at ho'; cases ho'
          exact ⟨_, m, w, run_append_zero hu hi hown A c, S, hx, Up.refl _⟩
        · cases hb
      · cases hb
    · cases hb
  · rename_i rows' hne
    rcases hsr with hsr | ⟨ad, news, rfl, hRn, hnl, hcell⟩
    · exact absurd hsr (by intro e; exact hne e)
    have hpos : 0 < rows.length := Nat.pos_of_ne_zero (fun e => hne (List.eq_nil_of_length_eq_zero e))
    have hone := RelL.one S hRn hall
    have hbig : ∀ n, n * it.bytes ≤ 140737488355328 → n ≤ maxLen := fun n hn => by
      have : n * 1 ≤ n * it.bytes := Nat.mul_le_mul_left n hbp
      unfold maxLen; omega
    split at hb
    · split at hb
      case isFalse => cases hb
      rename_i hlim
      simp only [Option.some.injEq, Prod.mk.injEq] at hb
      obtain ⟨rfl, rfl⟩ := hb
      simp only [Rel] at hx; subst hx
      obtain ⟨v', w', hrun, hown, hg, _, hat⟩ := run_append_own_at (P := P) w C.w0.heap.size T ty E it zv sz it.bytes hu hi hzv hsize rfl hzsz (by omega) (.slice none 0 0) 0 [] (World.ownsRow_nil w _ E sz) ad rows.length c news hnl hcell hone
        (by rw [Nat.zero_add]; exact hbig _ hlim) (by rw [Nat.zero_add]; exact hlim) S.below.size
      rw [Nat.zero_add, List.nil_append] at hown
      have hg' : w.grownBy w' none := hg
      have hbel : Below w.heap.size w w' := (Below.refl _ _).grown hg' (Nat.le_refl _) (by simp)
      obtain ⟨b, hb⟩ := own_pos hown hpos
      have hbw : b = w.heap.size := by
        rw [ownBlock_blk hown, hb] at hat
        rcases hat with hat | hat
        · cases hat
        · simpa using hat
      obtain ⟨h1, L⟩ := S.add (o := .arr E sz rows false) (v := v') hbel (fun b' hb' => by rw [hb] at hb'; cases hb'; exact ⟨by omega, own_lt' hown hb⟩)
        (fun L => ⟨news, by simpa [env] using hown, hRn.le L, hrl⟩)
      refine ⟨v', _, w', hrun, h1, ?_, L⟩
      simp only [Rel, env]
      refine ⟨by simp, fun T0 sz0 rows0 fr ho => ?_⟩
      simp at ho
      obtain ⟨rfl, rfl, rfl, rfl⟩ := ho
      exact ⟨Nat.le_refl _, fun _ => by rw [← S.len]; simp⟩
    · rename_i i n
      split at hb
      · rename_i E' sz' old ho
        split at hb
        · rename_i hcc
          obtain ⟨rfl, rfl, hn, hlim⟩ := hcc
          simp only [Option.some.injEq, Prod.mk.injEq] at hb
          obtain ⟨rfl, rfl⟩ := hb
          obtain ⟨_, _, _, _, us, ho', _, hm, hown, hRo, hsz0⟩ := cur_arr S hx (by simp [cur, ho, hn])
          rw [ho] at ho'; cases ho'
          obtain ⟨v', w', hrun, hown', hg, _, hat⟩ := run_append_own_at (P := P) w C.w0.heap.size T ty E' it zv sz' it.bytes hu hi hzv hsize rfl hzsz (by omega) ux old.length us hown ad rows.length c news hnl hcell hone
            (hbig _ hlim) hlim S.below.size
          rw [ownBlock_blk hown] at hg
          have hlt : i < s.h.length := (List.getElem?_eq_some_iff.1 ho).1
          have hlm : i < m.length := (List.getElem?_eq_some_iff.1 hm).1
          obtain ⟨h1, L⟩ := S.turn (o' := .arr E' sz' (old ++ rows) false) (v' := v') ho hm rfl (.inr (.inl ⟨E', sz', old, _, false, false, rfl, rfl, by simp, fun e => by rw [List.length_append] at e; omega⟩)) hg
            (by
              rw [ownBlock_blk hown', ownBlock_blk hown] at hat
              rcases hat with hat | hat
              · exact .inl hat
              · exact .inr (fun b hb => by rw [hb] at hat; cases hat; exact ⟨Nat.le_refl _, own_lt' hown' hb⟩))
            (fun L => ⟨us ++ news, by simpa [env] using hown', by rw [List.flatten_append]; exact (hRo.le L).append (hRn.le L), fun r hr => by
              rcases List.mem_append.1 hr with hr | hr
              · exact hsz0 r hr
              · exact hrl r hr⟩)
          refine ⟨v', _, w', hrun, h1, ?_, L⟩
          simp only [Rel, env]
          refine ⟨by simpa using hlt, fun T0 sz0 rows0 fr ho0 => ?_⟩
          rw [List.getElem?_set_self hlt] at ho0
          cases ho0
          exact ⟨by simp [hn], fun _ => by rw [List.getElem?_set_self hlm]⟩
        · cases hb
      · cases hb
    · cases hb

/-! ### rows that are drawn from their head, and grow at their end -/
theorem run_append_room_off {P : Program} (w : World) (t ty e : TypeId) (i : TypeInfo) (ht : P.underlying t = some (.slice e)) (hi : P.info? e = some i)
    (g d sLen sCap : Nat) (cur : Array Value) (hg : w.heap[g]? = some (.cells cur e (0, 0)))
    (a : Addr) (m c : Nat) (news : List Value) (hl : news.length = m * i.size) (hnews : ∀ j u, news[j]? = some u → w.cell? (a.add j) = some u) (h1 : ∀ u ∈ news, u.oneCell' = true)
    (hroom : sLen + m ≤ sCap) (hfit : (d + sLen) * i.size + news.length ≤ cur.size) :
    (Builtin.append_ #[t, t] ty #[.slice (some ⟨g, d * i.size, none⟩) sLen sCap, .slice (some a) m c]).run P w =
      .ok (.slice (some ⟨g, d * i.size, none⟩) (sLen + m) sCap) (w.setRow g (cur.toList.take ((d + sLen) * i.size) ++ news ++ cur.toList.drop ((d + sLen) * i.size + news.length)).toArray) := by
  have hf := run_firstCells_some (P := P) w i.size m a m c news hl hnews
  have hst := run_storeCells_at P g ((d + sLen) * i.size) e news 0 cur w hg (by simpa using hfit) h1
  simp only [Nat.add_zero, Nat.add_mul] at hst
  simp [Builtin.append_, run_underlying ht, sizeOf, typeInfo, hi, Builtin.lenOf, hroom, hf, Addr.add_lit, hst, Nat.add_mul]
theorem ownsRow_grown {w : World} {B : Nat} {T sz g c : Nat} {n m : Nat} {us news : List Value} {cur : Array Value} (h0 : us.length = n * sz) (hB : B ≤ g) (hh : w.heap[g]? = some (.cells cur T (0, 0))) (hcap : c ≤ maxLen) (hcur : cur.size = c * sz)
    (htake : cur.toList.take (n * sz) = us) (hl : news.length = m * sz) (hroom : n + m ≤ c) :
    (w.setRow g (cur.toList.take (n * sz) ++ news ++ cur.toList.drop (n * sz + news.length)).toArray).ownsRow B T sz (.slice (some ⟨g, 0, none⟩) (n + m) c) (n + m) (us ++ news) := by
  have e1 : (cur.toList.take (n * sz)).length = n * sz := by rw [htake]; exact h0
  have hle : (n + m) * sz ≤ c * sz := Nat.mul_le_mul_right _ hroom
  rw [Nat.add_mul] at hle
  have hs : cur.toList.length = c * sz := by simpa using hcur
  refine ⟨by rw [List.length_append, h0, hl, Nat.add_mul], .inr ⟨g, c, _, rfl, hB, setRow_heap w g cur _ T (0, 0) hh, hroom, hcap, ?_, ?_⟩⟩
  · simp only [List.size_toArray, List.length_append, e1, List.length_drop, hs]
    omega
  · rw [← htake]
    have e2 : (cur.toList.take (n * sz) ++ news).length = (n + m) * sz := by rw [List.length_append, e1, hl, Nat.add_mul]
    simp only
    rw [← e2]
    exact List.take_left
def appendD (P : Program) (h : List AObj) (T : TypeId) (x y : V) : Option (V × List AObj) :=
  match x with
  | .arrd i n k => match elemT P T with
    | some (E, sz) => match srcRows h sz y, zeroV P E, h[i]? with
      | some rows, some zs, some (.que E' sz' old) => if zs.length = sz ∧ 0 < P.bytesOf E ∧ rows.flatten.all (V.one h) ∧ rows ≠ [] ∧ E' = E ∧ sz' = sz ∧ n = old.length ∧ (old.length + rows.length) * P.bytesOf E ≤ 140737488355328 then
          some (.arrd i (n + rows.length) k, h.set i (.que E sz (old ++ rows))) else none
      | _, _, _ => none
    | none => none
  | x => appendV P h T x y
theorem appendD_sound {P : Program} {C : Ctx} {s : St} {m : List Value} {a : Act} {w : World} (S : Sim C s m a w) {T ty : TypeId} {x y z : V} {ux uy : Value} {h' : List AObj} (hx : Rel (env C s.h m w) x ux) (hy : Rel (env C s.h m w) y uy)
    (hb : appendD P s.h T x y = some (z, h')) :
    ∃ u' m' w', (Builtin.append_ #[T, T] ty #[ux, uy]).run P w = .ok u' w' ∧ Sim C ⟨s.t, h'⟩ m' a w' ∧ Rel (env C h' m' w') z u' ∧ Up (env C s.h m w) (env C h' m' w') := by
  unfold appendD at hb
  split at hb
  case h_2 => exact appendV_sound S hx hy hb
  rename_i i n k
  split at hb
  case h_2 => cases hb
  rename_i E sz he
  obtain ⟨hu, hsz, hnz⟩ := elemT_spec he
  split at hb
  case h_2 => cases hb
  rename_i rows zs E' sz' old hsrc hz ho
  split at hb
  case isFalse => cases hb
  rename_i hc
  obtain ⟨hzl, hbp, hall, hne, rfl, rfl, hn, hlim⟩ := hc
  simp only [Option.some.injEq, Prod.mk.injEq] at hb
  obtain ⟨rfl, rfl⟩ := hb
  obtain ⟨A, c, rfl, hrlen, hrl, hsr⟩ := srcRows_sound S hy hsrc
  obtain ⟨it, zv, hi, hzv, hR⟩ := zeroV_info (E := env C s.h m w) hz
  have hzsz : zv.cells.size = sz' := by have := hR.length; simp at this; omega
  have hsize : it.size = sz' := by unfold Program.cellsOf at hsz; simpa [hi] using hsz
  have hbytes : it.bytes = P.bytesOf E' := by simp [Program.bytesOf, hi]
  rw [← hbytes] at hbp hlim
  rcases hsr with hsr | ⟨ad, news, rfl, hRn, hnl, hcell⟩
  · exact absurd hsr hne
  have hpos : 0 < rows.length := Nat.pos_of_ne_zero (fun e => hne (List.eq_nil_of_length_eq_zero e))
  have hone := RelL.one S hRn hall
  have hbig : ∀ n, n * it.bytes ≤ 140737488355328 → n ≤ maxLen := fun n hn => by
    have : n * 1 ≤ n * it.bytes := Nat.mul_le_mul_left n hbp
    unfold maxLen; omega
  obtain ⟨T1, sz1, old1, us, A0, c0, j, ho', hn1, hm, hj, hkn, hnc, hown, hRo, hszo, A', rfl, hA⟩ := cur_arrd S hx (by simp [cur, ho, hn])
  rw [ho] at ho'; cases ho'
  have hlt : i < s.h.length := (List.getElem?_eq_some_iff.1 ho).1
  have hlm : i < m.length := (List.getElem?_eq_some_iff.1 hm).1
  have hflat : ∀ d, d ≤ old.length → (old.drop d).flatten ++ rows.flatten = ((old ++ rows).drop d).flatten := fun d hd => by
    rw [List.drop_append_of_le_length hd, List.flatten_append]
  have hall' : ∀ r ∈ old ++ rows, r.length = sz' := fun r hr => by
    rcases List.mem_append.1 hr with hr | hr
    · exact hszo r hr
    · exact hrl r hr
  by_cases hroom : n - k + rows.length ≤ c0 - (k - j)
  · -- there is room
    rcases hA with hA | ⟨g, rfl, rfl⟩
    · omega
    obtain ⟨h0, h1⟩ := hown
    rcases h1 with ⟨he, _⟩ | ⟨g', cap', cr, he, hg, hh, hn', hcap, hcur, htake⟩
    · cases he
    cases he
    have hfit : (k - j + (n - k)) * sz' + news.length ≤ cr.size := by
      rw [hcur, hnl, ← Nat.add_mul]
      exact Nat.mul_le_mul_right _ (by omega)
    have hrun := run_append_room_off (P := P) w T ty E' it hu hi g (k - j) (n - k) (c0 - (k - j)) cr hh ad rows.length c news (by rw [hsize]; exact hnl) hcell hone hroom (by rw [hsize]; exact hfit)
    rw [hsize, show k - j + (n - k) = n - j by omega] at hrun
    have hown2 := ownsRow_grown (n := n - j) (m := rows.length) h0 hg hh hcap hcur htake hnl (by omega)
    obtain ⟨h1, L⟩ := S.turn (o' := .que E' sz' (old ++ rows)) (v' := .slice (some ⟨g, 0, none⟩) (n - j + rows.length) c0) ho hm rfl (.inr (.inr (.inr (.inl ⟨E', sz', old, _, rfl, rfl, by simp, fun e => by rw [List.length_append] at e; omega⟩))))
      (show w.grownBy (w.setRow g (cr.toList.take ((n - j) * sz') ++ news ++ cr.toList.drop ((n - j) * sz' + news.length)).toArray) (some g) from grownBy_setRow _) (.inl rfl)
      (fun L => ⟨us ++ news, j, by rw [List.length_append]; omega, by
        rw [List.length_append, show old.length + rows.length - j = n - j + rows.length by omega]; exact hown2, by
        rw [← hflat j (by omega)]; exact (hRo.le L).append (hRn.le L), hall'⟩)
    refine ⟨_, _, _, hrun, h1, ?_, L⟩
    simp only [Rel, env]
    refine ⟨E', sz', old ++ rows, by rw [List.getElem?_set_self hlt], by rw [List.length_append]; omega, fun _ => ⟨some ⟨g, 0, none⟩, c0, j, by rw [List.getElem?_set_self hlm, show n - j + rows.length = n + rows.length - j by omega], hj, by omega, by omega, some ⟨g, (k - j) * sz', none⟩, by
      rw [show n - k + rows.length = n + rows.length - k by omega], .inr ⟨g, rfl, rfl⟩⟩⟩
  · -- a new row
    have hlim' : (n - k + rows.length) * it.bytes ≤ 140737488355328 := Nat.le_trans (Nat.mul_le_mul_right _ (by omega)) hlim
    have hsub : us.length = (n - j) * sz' := hown.1
    have husd : (us.drop ((k - j) * sz')).length = (n - k) * sz' := by
      rw [List.length_drop, hsub, ← Nat.sub_mul]; congr 1; omega
    have hgrow : ∃ v' w', (Builtin.append_ #[T, T] ty #[.slice A' (n - k) (c0 - (k - j)), .slice (some ad) rows.length c]).run P w = .ok v' w' ∧ w'.ownsRow w.heap.size E' sz' v' (n - k + rows.length) (us.drop ((k - j) * sz') ++ news) ∧ w.grownBy w' none := by
      rcases A' with _ | b
      · rcases hA with hA | ⟨g, _, hA⟩
        · have hnk : n - k = 0 := by omega
          have hck : c0 - (k - j) = 0 := by omega
          obtain ⟨v', w', h1, h2, h3, _, _⟩ := run_append_own_at (P := P) w w.heap.size T ty E' it zv sz' it.bytes hu hi hzv hsize rfl hzsz (by omega) (.slice none 0 0) 0 [] (World.ownsRow_nil w _ E' sz') ad rows.length c news hnl hcell hone
            (by rw [Nat.zero_add]; exact hbig _ (by rw [hnk, Nat.zero_add] at hlim'; exact hlim')) (by rw [hnk] at hlim'; exact hlim') (Nat.le_refl _)
          refine ⟨v', w', by rw [hnk, hck]; exact h1, ?_, h3⟩
          have : us.drop ((k - j) * sz') = [] := List.eq_nil_of_length_eq_zero (by rw [husd, hnk, Nat.zero_mul])
          rw [this, hnk]; exact h2
        · cases hA
      · refine run_append_arg_grows (P := P) w T ty E' it zv sz' it.bytes hu hi hzv hsize rfl hzsz (by omega) b (n - k) (c0 - (k - j)) (us.drop ((k - j) * sz')) husd ?_ ad rows.length c news hnl hcell (by omega) (hbig _ hlim') hlim'
        intro j' u hu'
        rcases hA with hA | ⟨g, rfl, hA⟩
        · exfalso
          have hnk : n - k = 0 := by omega
          have : us.drop ((k - j) * sz') = [] := List.eq_nil_of_length_eq_zero (by rw [husd, hnk, Nat.zero_mul])
          rw [this] at hu'; cases hu'
        · simp only [Option.some.injEq] at hA; subst hA
          have := hown.cells (g := g) rfl ((k - j) * sz' + j') u (by rw [List.getElem?_drop] at hu'; exact hu')
          rw [add_at] at this ⊢
          simpa using this
    obtain ⟨v', w', hrun, hown', hg⟩ := hgrow
    obtain ⟨b, hb⟩ := own_pos hown' (by omega)
    obtain ⟨h1, L⟩ := S.turn (o' := .que E' sz' (old ++ rows)) (v' := v') ho hm rfl (.inr (.inr (.inr (.inl ⟨E', sz', old, _, rfl, rfl, by simp, fun e => by rw [List.length_append] at e; omega⟩))))
      (show w.grownBy w' (blk (.slice A0 (n - j) c0)) from { hg with block := fun k hk _ => hg.block k hk (by simp) }) (.inr (fun b' hb' => by
        have hlow := own_ge hown' hb'
        exact ⟨hlow, own_lt' hown' hb'⟩))
      (fun L => ⟨us.drop ((k - j) * sz') ++ news, k, by rw [List.length_append]; omega, by
        rw [List.length_append, show old.length + rows.length - k = n - k + rows.length by omega]; exact own_mono hown' S.below.size, by
        rw [← hflat k (by omega)]
        refine RelL.append ?_ (hRn.le L)
        have := RelL.drop ((k - j) * sz') (hRo.le L)
        have e : (old.drop j).flatten.drop ((k - j) * sz') = (old.drop k).flatten := by
          have h2 : old.drop j = (old.drop j).take (k - j) ++ old.drop k := by
            have h5 : old.drop k = (old.drop j).drop (k - j) := by rw [List.drop_drop, show j + (k - j) = k by omega]
            rw [h5]
            exact (List.take_append_drop _ _).symm
          have h3 : ((old.drop j).take (k - j)).flatten.length = (k - j) * sz' := by
            rw [flatten_length _ sz' (fun r hr => hszo r (List.mem_of_mem_drop (List.mem_of_mem_take hr))), List.length_take, List.length_drop, Nat.min_eq_left (by omega)]
          rw [h2, List.flatten_append, ← h3, List.drop_left]
        rw [← e]; exact this, hall'⟩)
    refine ⟨_, _, _, hrun, h1, ?_, L⟩
    obtain ⟨A2, c2, rfl, hnc2, _, hA2, hp2⟩ := owns_shape hown'
    obtain ⟨g2, rfl⟩ := hp2 (by omega)
    simp only [Rel, env]
    refine ⟨E', sz', old ++ rows, by rw [List.getElem?_set_self hlt], by rw [List.length_append]; omega, fun _ => ⟨some ⟨g2, 0, none⟩, c2, k, by rw [List.getElem?_set_self hlm, show n - k + rows.length = n + rows.length - k by omega], Nat.le_refl _, by omega, by omega, some ⟨g2, 0, none⟩, by
      rw [show n - k + rows.length = n + rows.length - k by omega, Nat.sub_self, Nat.sub_zero], .inr ⟨g2, rfl, by rw [Nat.sub_self, Nat.zero_mul]⟩⟩⟩
end Go.Ab
namespace Go.Ab
open Go Go.RowKit
set_option linter.unusedVariables false

/-! ### scalar operations -/
def binInt (op : BinOp) (k : IntKind) (a b : Int) : Option V :=
  match op with
  | .add => some (.int k (k.wrap (a + b)))
  | .sub => some (.int k (k.wrap (a - b)))
  | .mul => some (.int k (k.wrap (a * b)))
  | .and => some (.int k (k.wrap (BitVec.ofInt k.bits a &&& BitVec.ofInt k.bits b).toNat))
  | .or => some (.int k (k.wrap (BitVec.ofInt k.bits a ||| BitVec.ofInt k.bits b).toNat))
  | .eql => some (.bool (a == b))
  | .neq => some (.bool (a != b))
  | .lss => some (.bool (decide (a < b)))
  | .leq => some (.bool (decide (a ≤ b)))
  | .gtr => some (.bool (decide (a > b)))
  | .geq => some (.bool (decide (a ≥ b)))
  | _ => none
def intsK : List IntKind → List V → Option (List Int)
  | [], [] => some []
  | k :: ks, .int k' n :: cs => if k = k' then (match intsK ks cs with | some l => some (n :: l) | none => none) else none
  | _, _ => none
def valsK : List IntKind → List Int → List Value
  | k :: ks, n :: ns => .int k n :: valsK ks ns
  | _, _ => []
def wideT (P : Program) (T : TypeId) : Bool :=
  match P.underlying T with
  | some (.array _ _) | some (.struct _) => true
  | _ => false
/-- What is known of a program's comparable structs of whole numbers. -/
structure Facts (P : Program) where
  eqK : TypeId → Option (List IntKind)
  eq_ok : ∀ T ks, eqK T = some ks → ∀ (asg bs : List Int) (x y : Operand) (w : World), asg.length = ks.length → bs.length = ks.length →
    (do eqGuard .eql T x y (.agg (valsK ks asg).toArray) (.agg (valsK ks bs).toArray); binOp .eql T (.agg (valsK ks asg).toArray) (.agg (valsK ks bs).toArray)).run P w = .ok (.bool (asg == bs)) w
  neq_ok : ∀ T ks, eqK T = some ks → ∀ (asg bs : List Int) (x y : Operand) (w : World), asg.length = ks.length → bs.length = ks.length →
    (do eqGuard .neq T x y (.agg (valsK ks asg).toArray) (.agg (valsK ks bs).toArray); binOp .neq T (.agg (valsK ks asg).toArray) (.agg (valsK ks bs).toArray)).run P w = .ok (.bool (!(asg == bs))) w
  mixed : P.follows .mixedOrders = true
  equal_ok : ∀ T ks, eqK T = some ks → ∀ (asg bs : List Int) (w : World), asg.length = ks.length → bs.length = ks.length → (Op.equal T (.agg (valsK ks asg).toArray) (.agg (valsK ks bs).toArray)).run P w = .ok (asg == bs) w
  check_ok : ∀ T ks, eqK T = some ks → ∀ (asg : List Int) (e : Bool) (w : World), asg.length = ks.length → (Instr.checkKey e 10000 T (.agg (valsK ks asg).toArray)).run P w = .ok () w
  wide_ok : ∀ T ks, eqK T = some ks → wideT P T = true
/-- Is a slice nil, as far as one can see? -/
def isNilV : V → Option Bool
  | .nil => some true
  | .sl _ (_ :: _) => some false
  | _ => none
def binV {P : Program} (F : Facts P) (op : BinOp) (T : TypeId) (x y : V) : Option V :=
  match x, y with
  | .int k a, .int k' b => if k = k' then (match op with
      | .shl => if 0 ≤ b then some (.int k (k.wrap (a * 2 ^ (min b.toNat k.bits)))) else none
      | .shr => if 0 ≤ b then some (.int k (a.fdiv (2 ^ (min b.toNat k.bits)))) else none
      | op => binInt op k a b) else none
  | .agg cs, .agg ds => match F.eqK T with
    | some ks => match intsK ks cs, intsK ks ds with
      | some asg, some bs => (match op with
        | .eql => some (.bool (asg == bs))
        | .neq => some (.bool (!(asg == bs)))
        | _ => none)
      | _, _ => none
    | none => none
  | .bool a, .bool b => match P.underlying T with
    | some .bool => (match op with
      | .eql => some (.bool (a == b))
      | .neq => some (.bool (!(a == b)))
      | _ => none)
    | _ => none
  | x, .nil => match P.underlying T, isNilV x with
    | some (.slice _), some b => (match op with
      | .eql => some (.bool b)
      | .neq => some (.bool (!b))
      | _ => none)
    | _, _ => none
  | _, _ => none
theorem RelL.intsK {E : Env} : ∀ {ks : List IntKind} {cs : List V} {vs : List Value} {asg : List Int}, RelL E cs vs → intsK ks cs = some asg → vs = valsK ks asg ∧ asg.length = ks.length
  | [], [], vs, asg, h, hi => by
    simp only [Ab.intsK, Option.some.injEq] at hi; subst hi
    simp only [RelL] at h; subst h
    exact ⟨rfl, rfl⟩
  | k :: ks, .int k' n :: cs, vs, asg, h, hi => by
    simp only [Ab.intsK] at hi
    split at hi
    · rename_i hk; subst hk
      split at hi
      · rename_i l hl
        simp only [Option.some.injEq] at hi; subst hi
        simp only [RelL, Rel] at h
        obtain ⟨u, us, rfl, rfl, h2⟩ := h
        obtain ⟨h3, h4⟩ := RelL.intsK h2 hl
        exact ⟨by simp [valsK, h3], by simp [h4]⟩
      · cases hi
    · cases hi
  | [], c :: cs, _, _, _, hi => by simp [Ab.intsK] at hi
  | k :: ks, [], _, _, _, hi => by simp [Ab.intsK] at hi
  | k :: ks, .bool _ :: _, _, _, _, hi | k :: ks, .str _ :: _, _, _, _, hi | k :: ks, .nil :: _, _, _, _, hi | k :: ks, .sl _ _ :: _, _, _, _, hi | k :: ks, .agg _ :: _, _, _, _, hi | k :: ks, .tup _ :: _, _, _, _, hi
  | k :: ks, .ro _ :: _, _, _, _, hi | k :: ks, .ptr _ _ :: _, _, _, _, hi | k :: ks, .nilptr :: _, _, _, _, hi | k :: ks, .arr _ _ :: _, _, _, _, hi | k :: ks, .arrd _ _ _ :: _, _, _, _, hi | k :: ks, .qptr _ _ _ _ :: _, _, _, _, hi | k :: ks, .aptr _ _ _ _ :: _, _, _, _, hi | k :: ks, .fn _ _ _ :: _, _, _, _, hi
  | k :: ks, .yield _ :: _, _, _, _, hi | k :: ks, .nilfn :: _, _, _, _, hi | k :: ks, .nilif :: _, _, _, _, hi | k :: ks, .iface _ _ :: _, _, _, _, hi | k :: ks, .map _ :: _, _, _, _, hi | k :: ks, .undef :: _, _, _, _, hi => by simp [Ab.intsK] at hi
theorem binInt_sound {P : Program} {E : Env} {op : BinOp} {T : TypeId} {k : IntKind} {a b : Int} {z : V} (h : binInt op k a b = some z) : ∃ u, Rel E z u ∧ ∀ w, (binOp op T (.int k a) (.int k b)).run P w = .ok u w := by
  cases op <;> simp only [binInt, Option.some.injEq, reduceCtorEq] at h <;> subst h <;> exact ⟨_, by simp only [Rel]; rfl, fun w => by simp [binOp, Op.intArith, Op.intCmp, Op.intBits]⟩
theorem run_equal_bool {P : Program} {T : TypeId} (hu : P.underlying T = some .bool) (a b : Bool) (w : World) : (Op.equal T (.bool a) (.bool b)).run P w = .ok (a == b) w := by
  unfold Op.equal
  rw [show Op.maxDepth = 9999 + 1 from rfl, Op.equalIn]
  simp only [Sem.run_bind, run_underlying hu, Result.andThen_ok, Sem.run_pure]
theorem run_equal_nil {P : Program} {T E : TypeId} (hu : P.underlying T = some (.slice E)) (A : Option Addr) (n c : Nat) (w : World) : (Op.equal T (.slice A n c) (.slice none 0 0)).run P w = .ok A.isNone w := by
  unfold Op.equal
  rw [show Op.maxDepth = 9999 + 1 from rfl, Op.equalIn]
  cases A <;> simp only [Sem.run_bind, run_underlying hu, Result.andThen_ok, Sem.run_pure] <;> rfl
theorem binV_sound {P : Program} {F : Facts P} {E : Env} {w : World} {op : BinOp} {T : TypeId} {x y z : V} {ux uy : Value} (hx : Rel E x ux) (hy : Rel E y uy) (ox oy : Operand) (h : binV F op T x y = some z) :
    ∃ u, (do eqGuard op T ox oy ux uy; binOp op T ux uy).run P w = .ok u w ∧ Rel E z u := by
  unfold binV at h
  split at h
  · rename_i k a k' b
    split at h
    · rename_i hk; subst hk
      simp only [Rel] at hx hy; subst hx; subst hy
      have hg : eqGuard op T ox oy (.int k a) (.int k b) = pure () := by cases op <;> rfl
      rw [hg]
      split at h
      · split at h
        · rename_i h0
          simp only [Option.some.injEq] at h; subst h
          exact ⟨.int k (k.wrap (a * 2 ^ min b.toNat k.bits)), by simp [binOp, Op.shift, show ¬ b < 0 by omega], by simp only [Rel]⟩
        · cases h
      · split at h
        · rename_i h0
          simp only [Option.some.injEq] at h; subst h
          exact ⟨.int k (a.fdiv (2 ^ min b.toNat k.bits)), by simp [binOp, Op.shift, show ¬ b < 0 by omega], by simp only [Rel]⟩
        · cases h
      · rename_i h1 h2
        obtain ⟨u, hr, hrun⟩ := binInt_sound (P := P) (E := E) (T := T) h
        exact ⟨u, by simpa using hrun w, hr⟩
    · cases h
  · rename_i cs ds
    split at h
    · rename_i ks hks
      split at h
      · rename_i asg bs ha hb
        simp only [Rel] at hx hy
        obtain ⟨vs, rfl, hR⟩ := hx
        obtain ⟨us, rfl, hR'⟩ := hy
        obtain ⟨h1, h2⟩ := RelL.intsK hR ha
        obtain ⟨h3, h4⟩ := RelL.intsK hR' hb
        have e1 : vs = (valsK ks asg).toArray := by rw [← h1]
        have e2 : us = (valsK ks bs).toArray := by rw [← h3]
        subst e1; subst e2
        split at h
        · simp only [Option.some.injEq] at h; subst h
          exact ⟨_, F.eq_ok T ks hks asg bs ox oy w h2 h4, by simp only [Rel]⟩
        · simp only [Option.some.injEq] at h; subst h
          exact ⟨_, F.neq_ok T ks hks asg bs ox oy w h2 h4, by simp only [Rel]⟩
        · cases h
      · cases h
    · cases h
  · rename_i a b
    split at h
    · rename_i hu
      simp only [Rel] at hx hy; subst hx; subst hy
      split at h
      · simp only [Option.some.injEq] at h; subst h
        exact ⟨.bool (a == b), by simp [eqGuard, binOp, run_equal_bool hu], by simp only [Rel]⟩
      · simp only [Option.some.injEq] at h; subst h
        exact ⟨.bool (!(a == b)), by simp [eqGuard, binOp, run_equal_bool hu], by simp only [Rel]⟩
      · cases h
    · cases h
  · rename_i x' hx2
    split at h
    · rename_i e b hu hn
      simp only [Rel] at hy; subst hy
      have hsl : ∃ A n c, ux = .slice A n c ∧ A.isNone = b := by
        unfold isNilV at hn
        split at hn
        · simp only [Option.some.injEq] at hn; subst hn
          simp only [Rel] at hx
          exact ⟨none, 0, 0, hx, rfl⟩
        · simp only [Option.some.injEq] at hn; subst hn
          simp only [Rel] at hx
          obtain ⟨A, c, rfl, _, hx⟩ := hx
          rcases hx with hx | ⟨ad, rfl, _⟩
          · cases hx
          · exact ⟨_, _, _, rfl, rfl⟩
        · cases hn
      obtain ⟨A, n, c, rfl, rfl⟩ := hsl
      split at h
      · simp only [Option.some.injEq] at h; subst h
        exact ⟨.bool A.isNone, by simp [eqGuard, binOp, run_equal_nil hu], by simp only [Rel]⟩
      · simp only [Option.some.injEq] at h; subst h
        exact ⟨.bool (!A.isNone), by simp [eqGuard, binOp, run_equal_nil hu], by simp only [Rel]⟩
      · cases h
    · cases h
  · cases h
end Go.Ab
namespace Go.Ab
open Go Go.RowKit
set_option linter.unusedVariables false

def ev (s : St) : Operand → Option V
  | .tmp t => s.t[t]?
  | .const v => ofValue v
  | .func f => some (.fn f [] [])
  | .global _ => none
theorem ev_sound {C : Ctx} {s : St} {m : List Value} {a : Act} {w : World} (S : Sim C s m a w) {x : Operand} {v : V} (h : ev s x = some v) : Rel (env C s.h m w) v (a.eval x) := by
  cases x with
  | tmp t =>
    simp only [ev] at h
    obtain ⟨u, hu, hr⟩ := RelL.get t S.slots h
    have : a.tmps.getD t undef = u := by
      have := hu
      simp only [Array.getElem?_toList] at this
      simp [Array.getD_eq_getD_getElem?, this]
    simpa only [Act.eval, this] using hr
  | const c => exact ofValue_sound h
  | func f =>
    simp only [ev, Option.some.injEq] at h; subst h
    simp only [Rel, Act.eval]
    exact ⟨#[], #[], rfl, by simp [RelL], by simp [RelL]⟩
  | global g => cases h
def evs (s : St) : List Operand → Option (List V)
  | [] => some []
  | x :: xs => match ev s x, evs s xs with
    | some v, some vs => some (v :: vs)
    | _, _ => none
theorem evs_sound {C : Ctx} {s : St} {m : List Value} {a : Act} {w : World} (S : Sim C s m a w) : ∀ {xs : List Operand} {vs : List V}, evs s xs = some vs → RelL (env C s.h m w) vs (xs.map a.eval)
  | [], vs, h => by simp only [evs, Option.some.injEq] at h; subst h; simp [RelL]
  | x :: xs, vs, h => by
    simp only [evs] at h
    split at h
    · rename_i v vs' h1 h2
      simp only [Option.some.injEq] at h; subst h
      simp only [List.map_cons, RelL]
      exact ⟨_, _, rfl, ev_sound S h1, evs_sound S h2⟩
    · cases h
def evp (s : St) : List (Nat × Operand) → Option (List (Nat × V))
  | [] => some []
  | (i, x) :: xs => match ev s x, evp s xs with
    | some v, some vs => some ((i, v) :: vs)
    | _, _ => none
theorem evp_sound {C : Ctx} {s : St} {m : List Value} {a : Act} {w : World} (S : Sim C s m a w) : ∀ {xs : List (Nat × Operand)} {vs : List (Nat × V)}, evp s xs = some vs →
    vs.length = (xs.map fun (i, x) => (i, a.eval x)).length ∧ ∀ (k : Nat) i v, vs[k]? = some (i, v) → ∃ u, (xs.map fun (i, x) => (i, a.eval x))[k]? = some (i, u) ∧ Rel (env C s.h m w) v u
  | [], vs, h => by simp only [evp, Option.some.injEq] at h; subst h; simp
  | (j, x) :: xs, vs, h => by
    simp only [evp] at h
    split at h
    · rename_i v vs' h1 h2
      simp only [Option.some.injEq] at h; subst h
      obtain ⟨h3, h4⟩ := evp_sound S h2
      refine ⟨by simpa using h3, fun k i v hk => ?_⟩
      cases k with
      | zero => simp at hk; obtain ⟨rfl, rfl⟩ := hk; exact ⟨_, by simp, ev_sound S h1⟩
      | succ k => simp at hk; obtain ⟨u, hu, hr⟩ := h4 k i v hk; exact ⟨u, by simpa using hu, hr⟩
    · cases h
def lenV (P : Program) (h : List AObj) (T : TypeId) (x : V) : Option V :=
  match P.underlying T, x with
  | some (.slice _), .nil => some (.int .i64 0)
  | some (.slice _), .sl _ rows => some (.int .i64 rows.length)
  | some (.slice _), .arr i n => if cur h x then some (.int .i64 n) else none
  | some (.slice _), .arrd i n k => if cur h x then some (.int .i64 ((n - k : Nat) : Int)) else none
  | _, _ => none
theorem lenV_sound {P : Program} {C : Ctx} {s : St} {m : List Value} {a : Act} {w : World} (S : Sim C s m a w) {T ty : TypeId} {x z : V} {u : Value} (hx : Rel (env C s.h m w) x u) (h : lenV P s.h T x = some z) :
    ∃ u', (Builtin.len_ #[T] ty #[u]).run P w = .ok u' w ∧ Rel (env C s.h m w) z u' := by
  unfold lenV at h
  split at h
  · rename_i e hu
    simp only [Option.some.injEq] at h; subst h
    simp only [Rel] at hx; subst hx
    exact ⟨.int .i64 0, by simp [Builtin.len_, run_underlying hu, goInt], by simp only [Rel]⟩
  · rename_i e sz rows hu
    simp only [Option.some.injEq] at h; subst h
    simp only [Rel] at hx
    obtain ⟨A, c, rfl, _⟩ := hx
    exact ⟨.int .i64 rows.length, by simp [Builtin.len_, run_underlying hu, goInt], by simp only [Rel]⟩
  · rename_i e i n hu
    split at h
    · rename_i hc
      simp only [Option.some.injEq] at h; subst h
      obtain ⟨_, _, rows, _, us, ho', hn, hm, hown, _, _⟩ := cur_arr S hx hc
      obtain ⟨A, c, rfl, _⟩ := owns_shape hown
      exact ⟨.int .i64 n, by simp [Builtin.len_, run_underlying hu, goInt, hn], by simp only [Rel]⟩
    · cases h
  · rename_i e i n k hu
    split at h
    · rename_i hc
      simp only [Option.some.injEq] at h; subst h
      obtain ⟨_, _, _, _, _, _, _, _, _, _, _, _, _, _, _, _, _, rfl, _⟩ := cur_arrd S hx hc
      exact ⟨.int .i64 ((n - k : Nat) : Int), by simp [Builtin.len_, run_underlying hu, goInt], by simp only [Rel]⟩
    · cases h
  · cases h
/-- A part of a composite value. -/
def partV (P : Program) (T off : Nat) (cs : List V) : Option V :=
  match kindT P T with
  | some true => if off + sizeT P T ≤ cs.length then some (.agg ((cs.drop off).take (sizeT P T))) else none
  | some false => cs[off]?
  | none => none
theorem partV_sound {P : Program} {E : Env} {w : World} {T off : Nat} {cs : List V} {vs : Array Value} {y : V} (hR : RelL E cs vs.toList) (h : partV P T off cs = some y) : ∃ u, (part T vs off).run P w = .ok u w ∧ Rel E y u := by
  unfold partV at h
  split at h
  · rename_i hk
    split at h
    · rename_i hle
      simp only [Option.some.injEq] at h; subst h
      refine ⟨.agg (vs.extract off (off + sizeT P T)), by simp [part, run_isAgg hk, run_sizeT hk], ?_⟩
      simp only [Rel]
      refine ⟨_, rfl, ?_⟩
      have := RelL.take (sizeT P T) (RelL.drop off hR)
      simpa [Array.toList_extract, List.extract] using this
    · cases h
  · rename_i hk
    obtain ⟨u, hu, hr⟩ := RelL.get off hR h
    simp at hu
    exact ⟨u, by simp [part, run_isAgg hk, hu], hr⟩
  · cases h
def fieldOfV (P : Program) (T : TypeId) (x : V) (f : Nat) : Option V :=
  match P.underlying T, x with
  | some (.struct fs), .agg cs => match fs[f]? with
    | some fd => partV P fd.type fd.offset cs
    | none => none
  | _, _ => none
def indexOfV (P : Program) (T : TypeId) (x i : V) : Option V :=
  match P.underlying T, x, i with
  | some (.array n E), .agg cs, .int _ k => if 0 ≤ k ∧ k.toNat < n ∧ P.cellsOf E ≠ 0 then partV P E (k.toNat * P.cellsOf E) cs else none
  | _, _, _ => none
theorem fieldOfV_sound {P : Program} {E : Env} {w : World} {T : TypeId} {x y : V} {u : Value} {f : Nat} (hx : Rel E x u) (h : fieldOfV P T x f = some y) : ∃ u', (Instr.field T u f).run P w = .ok u' w ∧ Rel E y u' := by
  unfold fieldOfV at h
  split at h
  · rename_i fs cs hu
    split at h
    · rename_i fd hf
      simp only [Rel] at hx
      obtain ⟨vs, rfl, hR⟩ := hx
      obtain ⟨u, hr, hy⟩ := partV_sound (w := w) hR h
      exact ⟨u, by simp [Instr.field, run_underlying hu, hf, asAgg, hr], hy⟩
    · cases h
  · cases h
theorem indexOfV_sound {P : Program} {E : Env} {w : World} {T : TypeId} {x i y : V} {u ui : Value} (hx : Rel E x u) (hi : Rel E i ui) (h : indexOfV P T x i = some y) : ∃ u', (Instr.index T u ui).run P w = .ok u' w ∧ Rel E y u' := by
  unfold indexOfV at h
  split at h
  · rename_i n EE cs kk k hu
    split at h
    · rename_i hc
      simp only [Rel] at hx hi
      obtain ⟨vs, rfl, hR⟩ := hx
      subst hi
      obtain ⟨u, hr, hy⟩ := partV_sound (w := w) hR h
      have hk : 0 ≤ k ∧ k < (n : Int) := ⟨hc.1, by omega⟩
      exact ⟨u, by simp [Instr.index, run_underlying hu, asIntOf, hk, cellsOf_info hc.2.2, hr], hy⟩
    · cases h
  · cases h

/-! ### maps -/
def mapT (P : Program) (T : TypeId) : Option (TypeId × TypeId) :=
  match P.underlying T with
  | some (.map k e) => some (k, e)
  | _ => none
theorem mapT_spec {P : Program} {T K E : TypeId} (h : mapT P T = some (K, E)) : P.underlying T = some (.map K E) := by
  unfold mapT at h
  split at h
  · rename_i k e hu
    simp only [Option.some.injEq, Prod.mk.injEq] at h
    obtain ⟨rfl, rfl⟩ := h
    exact hu
  · cases h
/-- A key's numbers. -/
def keyI (ks : List IntKind) : V → Option (List Int)
  | .agg cs => intsK ks cs
  | _ => none
/-- What a key is found with: the first entry's place. -/
def findM (ks : List IntKind) (asg : List Int) : List (V × V) → Nat → Option (Option (Nat × V))
  | [], _ => some none
  | (k, v) :: es, i => match keyI ks k with
    | some bs => if asg == bs then some (some (i, v)) else findM ks asg es (i + 1)
    | none => none
theorem keyI_sound {E : Env} {ks : List IntKind} {k : V} {u : Value} {asg : List Int} (h : keyI ks k = some asg) (hr : Rel E k u) : u = .agg (valsK ks asg).toArray ∧ asg.length = ks.length := by
  cases k with
  | agg cs =>
    simp only [keyI] at h
    simp only [Rel] at hr
    obtain ⟨vs, rfl, hR⟩ := hr
    obtain ⟨h1, h2⟩ := RelL.intsK hR h
    exact ⟨by rw [← h1], h2⟩
  | _ => simp [keyI] at h
theorem findM_sound {P : Program} (F : Facts P) {E : Env} {w : World} {K : TypeId} {ks : List IntKind} (hK : F.eqK K = some ks) {asg : List Int} (hl : asg.length = ks.length) : ∀ {es : List (V × V)} {ms : List MapEntry} {i : Nat} {r : Option (Nat × V)},
    RelL E (es.map (·.1)) (ms.map (·.key)) → RelL E (es.map (·.2)) (ms.map (·.val)) → findM ks asg es i = some r →
    ∃ r', (Instr.findAsking K (.agg (valsK ks asg).toArray) ms i).run P w = .ok r' w ∧ (match r with
      | none => r' = none
      | some (j, v) => ∃ u, r' = some (j, u) ∧ Rel E v u)
  | [], ms, i, r, h1, h2, h => by
    simp only [List.map_nil, RelL, List.map_eq_nil_iff] at h1; subst h1
    simp only [findM, Option.some.injEq] at h; subst h
    exact ⟨none, by simp [Instr.findAsking], rfl⟩
  | (k, v) :: es, ms, i, r, h1, h2, h => by
    simp only [List.map_cons, RelL] at h1 h2
    obtain ⟨uk, us, e1, hk, h1⟩ := h1
    obtain ⟨uv, us', e2, hv, h2⟩ := h2
    cases ms with
    | nil => simp at e1
    | cons m ms =>
      simp only [List.map_cons, List.cons.injEq] at e1 e2
      obtain ⟨rfl, rfl⟩ := e1
      obtain ⟨rfl, rfl⟩ := e2
      simp only [findM] at h
      split at h
      · rename_i bs hb
        obtain ⟨e3, hbl⟩ := keyI_sound hb hk
        have he := F.equal_ok K ks hK asg bs w hl hbl
        rw [← e3] at he
        split at h
        · rename_i hab
          simp only [Option.some.injEq] at h; subst h
          refine ⟨some (i, m.val), ?_, m.val, rfl, hv⟩
          simp only [Instr.findAsking, Sem.run_bind, he, Result.andThen_ok, hab, if_true, Sem.run_pure]
        · rename_i hab
          obtain ⟨r', hr', hm⟩ := findM_sound F hK hl h1 h2 h
          refine ⟨r', ?_, hm⟩
          simp only [Instr.findAsking, Sem.run_bind, he, Result.andThen_ok, hab, if_false]
          simpa using hr'
      · cases h
/-- The value that a type begins with. -/
def zeroVal (P : Program) (T : TypeId) : Option V :=
  match P.info? T with
  | some i => match i.zero with
    | some z => ofValue z
    | none => none
  | none => none
theorem zeroVal_sound {P : Program} {E : Env} {T : TypeId} {x : V} (h : zeroVal P T = some x) (w : World) : ∃ z, (zeroValue T).run P w = .ok z w ∧ Rel E x z := by
  unfold zeroVal at h
  split at h
  · rename_i i hi
    split at h
    · rename_i z hz
      exact ⟨z, by simp [zeroValue, typeInfo, hi, hz], ofValue_sound h⟩
    · cases h
  · cases h
/-- A map is looked into. -/
def lookupV {P : Program} (F : Facts P) (h : List AObj) (T : TypeId) (x k : V) (ok : Bool) : Option V :=
  match x, mapT P T with
  | .map i, some (K, E) => match h[i]?, F.eqK K with
    | some (.map es), some ks => match keyI ks k with
      | some asg => match findM ks asg es 0 with
        | some (some (_, v)) => some (if ok then .tup [v, .bool true] else v)
        | some none => match zeroVal P E with
          | some z => some (if ok then .tup [z, .bool false] else z)
          | none => none
        | none => none
      | none => none
    | _, _ => none
  | _, _ => none
theorem map_obj {C : Ctx} {s : St} {m : List Value} {a : Act} {w : World} (S : Sim C s m a w) {i : Nat} {u : Value} {es : List (V × V)} (hr : Rel (env C s.h m w) (.map i) u) (ho : s.h[i]? = some (.map es)) :
    ∃ b clock es', u = .map (some b) ∧ m[i]? = some (.map (some b)) ∧ C.w0.heap.size ≤ b ∧ w.heap[b]? = some (.map es' clock) ∧ RelL (env C s.h m w) (es.map (·.1)) (es'.toList.map (·.key)) ∧ RelL (env C s.h m w) (es.map (·.2)) (es'.toList.map (·.val)) := by
  simp only [Rel] at hr
  obtain ⟨b, hm, rfl⟩ := hr
  simp only [env] at hm
  obtain ⟨b', clock, es', he, h1, h2, h3, h4⟩ := S.objs i _ _ ho hm
  cases he
  exact ⟨b, clock, es', rfl, hm, h1, h2, h3, h4⟩
theorem run_getMap {P : Program} {w : World} {b clock : Nat} {es : Array MapEntry} (h : w.heap[b]? = some (.map es clock)) : (getObj b).run P w = .ok (.map es clock) w := by simp [getObj, Sem.run, h]
theorem findKey_wide {P : Program} {w : World} {K : TypeId} {x : Value} {es : List MapEntry} (hw : wideT P K = true) :
    (Instr.findKey K x es).run P w = (Instr.findAsking K x es).run P w := by
  unfold wideT at hw
  cases hu : P.underlying K with
  | none => simp [hu] at hw
  | some kd =>
    cases es with
    | nil => simp [Instr.findKey, run_underlying hu, Instr.findNow, Instr.findAsking]
    | cons e es => cases kd <;> simp [hu] at hw <;> simp [Instr.findKey, run_underlying hu, Instr.findNow, Instr.sameNow]
theorem lookupV_sound {P : Program} (F : Facts P) {C : Ctx} {s : St} {m : List Value} {a : Act} {w : World} (S : Sim C s m a w) {T : TypeId} {x k y : V} {ux uk : Value} {ok : Bool} (hx : Rel (env C s.h m w) x ux) (hk : Rel (env C s.h m w) k uk)
    (h : lookupV F s.h T x k ok = some y) : ∃ u, (Instr.lookup T ux uk ok).run P w = .ok u w ∧ Rel (env C s.h m w) y u := by
  unfold lookupV at h
  split at h
  · rename_i i K E hT
    have hu := mapT_spec hT
    split at h
    · rename_i es ks ho hK
      split at h
      · rename_i asg ha
        obtain ⟨hue, hl⟩ := keyI_sound ha hk
        subst hue
        obtain ⟨b, clock, es', rfl, hm, _, hh, h1, h2⟩ := map_obj S hx ho
        have hc := fun e => F.check_ok K ks hK asg e w hl
        split at h
        · rename_i j v hf
          simp only [Option.some.injEq] at h; subst h
          obtain ⟨r', hr', u, rfl, hv⟩ := findM_sound (w := w) F hK hl h1 h2 hf
          refine ⟨if ok then .tuple #[u, .bool true] else u, ?_, ?_⟩
          · simp only [Instr.lookup, Sem.run_bind, run_underlying hu, Result.andThen_ok, run_getMap hh, Sem.run_pure, hc, findKey_wide (F.wide_ok K ks hK), hr']
          · cases ok
            · simpa using hv
            · simp only [if_true, Rel, RelL]
              exact ⟨_, rfl, u, _, rfl, hv, _, _, rfl, rfl, rfl⟩
        · rename_i hf
          obtain ⟨r', hr', rfl⟩ := findM_sound (w := w) F hK hl h1 h2 hf
          split at h
          · rename_i z hz
            simp only [Option.some.injEq] at h; subst h
            obtain ⟨u, hrun, hv⟩ := zeroVal_sound (E := env C s.h m w) hz w
            refine ⟨if ok then .tuple #[u, .bool false] else u, ?_, ?_⟩
            · simp only [Instr.lookup, Sem.run_bind, run_underlying hu, Result.andThen_ok, run_getMap hh, Sem.run_pure, hc, findKey_wide (F.wide_ok K ks hK), hr', hrun]
            · cases ok
              · simpa using hv
              · simp only [if_true, Rel, RelL]
                exact ⟨_, rfl, u, _, rfl, hv, _, _, rfl, rfl, rfl⟩
          · cases h
        · cases h
      · cases h
    · cases h
  · cases h
theorem makeMap_sound {P : Program} {C : Ctx} {s : St} {m : List Value} {a : Act} {w : World} (S : Sim C s m a w) (T : TypeId) :
    ∃ u m' w', (Instr.makeMap T none).run P w = .ok u w' ∧ Sim C ⟨s.t, s.h ++ [.map []]⟩ m' a w' ∧ Rel (env C (s.h ++ [.map []]) m' w') (.map s.h.length) u ∧ Up (env C s.h m w) (env C (s.h ++ [.map []]) m' w') := by
  obtain ⟨h1, L⟩ := S.add (o := .map []) (v := .map (some w.heap.size)) (below_alloc' w (.map #[] 0)) (fun b hb => by simp only [blk, Option.some.injEq] at hb; subst hb; exact ⟨Nat.le_refl _, by rw [size_alloc']; omega⟩)
    (fun L => ⟨w.heap.size, 0, #[], rfl, S.below.size, alloc_new _ _, by simp [RelL], by simp [RelL]⟩)
  refine ⟨.map (some w.heap.size), _, _, ?_, h1, ?_, L⟩
  · simp [Instr.makeMap, newObj, Sem.run]
  · simp only [Rel, env]
    exact ⟨w.heap.size, by rw [← S.len]; simp, rfl⟩
/-- A map is told something new. -/
def updateH {P : Program} (F : Facts P) (h : List AObj) (T : TypeId) (x k v : V) : Option (List AObj) :=
  match x, mapT P T with
  | .map i, some (K, E) => match h[i]?, F.eqK K with
    | some (.map es), some ks => match keyI ks k with
      | some asg => match findM ks asg es 0 with
        | some none => some (h.set i (.map (es ++ [(k, v)])))
        | _ => none
      | none => none
    | _, _ => none
  | _, _ => none
theorem grownBy_setObj (w : World) (b : Nat) (o : Obj) : w.grownBy { w with heap := w.heap.setIfInBounds b o } (some b) :=
  ⟨rfl, rfl, rfl, by simp, fun k hk hne => by
    have : b ≠ k := fun e => hne (by rw [e])
    simp [Array.getElem?_setIfInBounds_ne this]⟩
theorem run_setObj_any {P : Program} {w : World} {b c : Nat} {es : Array MapEntry} (o' : Obj) (h : w.heap[b]? = some (.map es c)) : (setObj b o').run P w = .ok () { w with heap := w.heap.setIfInBounds b o' } := by
  simp [setObj, Sem.run, h]
theorem updateH_sound {P : Program} (F : Facts P) {C : Ctx} {s : St} {m : List Value} {a : Act} {w : World} (S : Sim C s m a w) {T : TypeId} {x k v : V} {ux uk uv : Value} {h' : List AObj} (hx : Rel (env C s.h m w) x ux) (hk : Rel (env C s.h m w) k uk) (hv : Rel (env C s.h m w) v uv)
    (h : updateH F s.h T x k v = some h') : ∃ m' w', (Instr.mapUpdate T ux uk uv).run P w = .ok () w' ∧ Sim C ⟨s.t, h'⟩ m' a w' ∧ Up (env C s.h m w) (env C h' m' w') := by
  unfold updateH at h
  split at h
  · rename_i i K E hT
    have hu := mapT_spec hT
    split at h
    · rename_i es ks ho hK
      split at h
      · rename_i asg ha
        obtain ⟨hue, hl⟩ := keyI_sound ha hk
        obtain ⟨b, clock, es', rfl, hm, hb, hh, h1, h2⟩ := map_obj S hx ho
        have hc := fun e => F.check_ok K ks hK asg e w hl
        split at h
        · rename_i hf
          simp only [Option.some.injEq] at h; subst h
          obtain ⟨r', hr', rfl⟩ := findM_sound (w := w) F hK hl h1 h2 hf
          have hlt : b < w.heap.size := cells_lt hh
          obtain ⟨h3, L⟩ := S.turn (o' := .map (es ++ [(k, v)])) (v' := .map (some b)) ho hm rfl (.inr (.inr (.inl ⟨_, _, rfl, rfl, rfl⟩))) (grownBy_setObj w b (.map (es'.push { key := uk, val := uv, born := clock }) (clock + 1))) (.inl rfl)
            (fun L => ⟨b, clock + 1, es'.push { key := uk, val := uv, born := clock }, rfl, hb, by simp [env, hlt], by
              simp only [List.map_append, List.map_cons, List.map_nil, Array.toList_push]
              exact (h1.le L).append (by simp only [RelL]; exact ⟨_, _, rfl, hk.le L, rfl⟩), by
              simp only [List.map_append, List.map_cons, List.map_nil, Array.toList_push]
              exact (h2.le L).append (by simp only [RelL]; exact ⟨_, _, rfl, hv.le L, rfl⟩)⟩)
          refine ⟨_, _, ?_, h3, L⟩
          rw [hue]
          simp only [Instr.mapUpdate, Sem.run_bind, run_underlying hu, Result.andThen_ok, run_getMap hh, hc, findKey_wide (F.wide_ok K ks hK), hr', run_setObj_any _ hh]
        · cases h
      · cases h
    · cases h
  · cases h
end Go.Ab
namespace Go.Ab
open Go Go.RowKit
set_option linter.unusedVariables false

/-- What a pointer is good for: not nil, seen at a glance. -/
def solidV (h : List AObj) : V → Bool
  | .ptr _ _ | .ro _ => true
  | .aptr i n r o => cur h (.aptr i n r o)
  | .qptr i n r o => cur h (.qptr i n r o)
  | .fn _ _ _ | .iface _ _ => true
  | _ => false
def optV (s : St) : Option Operand → Option (Option V)
  | none => some none
  | some x => match ev s x with
    | some v => some (some v)
    | none => none
/-- '==' with the nil of an interface beside the rest. -/
def binN {P : Program} (F : Facts P) (op : BinOp) (T : TypeId) (x y : V) : Option V :=
  match y with
  | .nilif => match x, P.underlying T, op with
    | .nilif, some (.interface ms), .eql => if ms.isEmpty = true then some (.bool true) else none
    | .iface _ _, some (.interface ms), .eql => if ms.isEmpty = true then some (.bool false) else none
    | _, _, _ => none
  | y => binV F op T x y
theorem binN_sound {P : Program} {F : Facts P} {E : Env} {w : World} {op : BinOp} {T : TypeId} {x y z : V} {ux uy : Value} (hx : Rel E x ux) (hy : Rel E y uy) (ox oy : Operand) (h : binN F op T x y = some z) :
    ∃ u, (do eqGuard op T ox oy ux uy; binOp op T ux uy).run P w = .ok u w ∧ Rel E z u := by
  unfold binN at h
  split at h
  · simp only [Rel] at hy; subst hy
    split at h
    · rename_i ms hu
      split at h
      · rename_i hm
        simp only [Option.some.injEq] at h; subst h
        simp only [Rel] at hx; subst hx
        refine ⟨.bool true, ?_, by simp only [Rel]⟩
        have hg : (Op.eqGuardIn Op.maxDepth T .nilIface .nilIface).run P w = .ok false w := by
          rw [show Op.maxDepth = 9999 + 1 from rfl, Op.eqGuardIn]
          simp [run_underlying hu, hm]
        have he : (Op.equal T .nilIface .nilIface).run P w = .ok true w := by
          unfold Op.equal
          rw [show Op.maxDepth = 9999 + 1 from rfl, Op.equalIn]
          simp [run_underlying hu]
        have hgg : (eqGuard .eql T ox oy .nilIface .nilIface).run P w = .ok () w := by
          unfold eqGuard
          cases ox <;> cases oy <;> simp [hg]
        simp only [Sem.run_bind, hgg, Result.andThen_ok, binOp, he, Sem.run_pure]
      · cases h
    · rename_i t v ms hu
      split at h
      · simp only [Option.some.injEq] at h; subst h
        simp only [Rel] at hx
        obtain ⟨u, rfl, _⟩ := hx
        refine ⟨.bool false, ?_, by simp only [Rel]⟩
        have he : (Op.equal T (.iface t u) .nilIface).run P w = .ok false w := by
          unfold Op.equal
          rw [show Op.maxDepth = 9999 + 1 from rfl, Op.equalIn]
          simp [run_underlying hu]
        simp [eqGuard, binOp, he]
      · cases h
    · cases h
  · exact binV_sound hx hy ox oy h
/-- One operation that is no call of a Go function: what it yields (nothing: none), and the heap behind it. -/
def opV {P : Program} (F : Facts P) (s : St) (op : Op) : Option (Option V × List AObj) :=
  match op with
  | .move x | .assign x => match ev s x with
    | some v => some (some v, s.h)
    | none => none
  | .pick c a b => match ev s c, ev s a, ev s b with
    | some (.bool t), some x, some y => some (some (if t = true then x else y), s.h)
    | _, _, _ => none
  | .alloc T => match zeroV P T with
    | some cs => some (some (.ptr s.h.length 0), s.h ++ [.box T cs])
    | none => none
  | .box T x => match ev s x with
    | some v => match flat s.h v with
      | some cs => some (some (.ptr s.h.length 0), s.h ++ [.box T cs])
      | none => none
    | none => none
  | .build T ps => match evp s ps.toList with
    | some vs => match buildV P s.h T vs with
      | some v => some (some v, s.h)
      | none => none
    | none => none
  | .buildSlice T n ps => match evp s ps.toList with
    | some vs => match litV P s.h T n vs with
      | some v => some (some v, s.h)
      | none => none
    | none => none
  | .load T x => match ev s x with
    | some v => match loadV P s.h T v with
      | some y => some (some y, s.h)
      | none => none
    | none => none
  | .store T p x => match ev s p, ev s x with
    | some pv, some v => match storeH P s.h T pv v with
      | some h' => some (none, h')
      | none => none
    | _, _ => none
  | .nilCheck x => match ev s x with
    | some v => if solidV s.h v = true then some (some v, s.h) else none
    | none => none
  | .binOp b T x y _ => match ev s x, ev s y with
    | some v, some u => match binN F b T v u with
      | some z => some (some z, s.h)
      | none => none
    | _, _ => none
  | .unOp u _ x => match u, ev s x with
    | .not, some (.bool b) => some (some (.bool (!b)), s.h)
    | .neg, some (.int k n) => some (some (.int k (k.wrap (0 - n))), s.h)
    | _, _ => none
  | .makeFunc (.func f) fs cs => match evs s fs.toList, evs s cs.toList with
    | some a, some b => some (some (.fn f a b), s.h)
    | _, _ => none
  | .makeSlice T n c => match ev s n, ev s c with
    | some (.int .i64 k), some (.int .i64 k') => if k = k' then (match makeV P s.h T (.int .i64 k) with
      | some (v, h') => some (some v, h')
      | none => none) else none
    | _, _ => none
  | .slice T x lo hi none => match ev s x, optV s lo, optV s hi with
    | some v, some l, some u => match sliceD P s.h T v l u with
      | some y => some (some y, s.h)
      | none => none
    | _, _, _ => none
  | .fieldAddr T x f => match ev s x with
    | some v => match fieldV P s.h T v f with
      | some y => some (some y, s.h)
      | none => none
    | none => none
  | .field T x f => match ev s x with
    | some v => match fieldOfV P T v f with
      | some y => some (some y, s.h)
      | none => none
    | none => none
  | .indexAddr T x i => match ev s x, ev s i with
    | some v, some k => match indexAddrV P s.h T v k with
      | some y => some (some y, s.h)
      | none => none
    | _, _ => none
  | .index T x i => match ev s x, ev s i with
    | some v, some k => match indexOfV P T v k with
      | some y => some (some y, s.h)
      | none => none
    | _, _ => none
  | .extract x i => match ev s x with
    | some (.tup cs) => match cs[i]? with
      | some y => some (some y, s.h)
      | none => none
    | _ => none
  | .makeInterface T x => match ev s x, P.underlying T with
    | some v, some (.struct _) => some (some (.iface T v), s.h)
    | _, _ => none
  | .typeAssert x _ T true => match ev s x, P.underlying T with
    | some (.iface t v), some (.struct _) => if t = T then some (some (.tup [v, .bool true]), s.h) else (match zeroVal P T with
      | some z => some (some (.tup [z, .bool false]), s.h)
      | none => none)
    | _, _ => none
  | .makeMap T none => some (some (.map s.h.length), s.h ++ [.map []])
  | .insert T m k x => match ev s m, ev s k, ev s x with
    | some mv, some kv, some v => match updateH F s.h T mv kv v with
      | some h' => some (none, h')
      | none => none
    | _, _, _ => none
  | .mapUpdate T m k x => match ev s m, ev s k, ev s x with
    | some mv, some kv, some v => match updateH F s.h T mv kv v with
      | some h' => some (none, h')
      | none => none
    | _, _, _ => none
  | .lookup T x k ok => match ev s x, ev s k with
    | some v, some kv => match lookupV F s.h T v kv ok with
      | some y => some (some y, s.h)
      | none => none
    | _, _ => none
  | .call ⟨.builtin b, args, ts⟩ => match b, args.toList, ts.toList with
    | .len, [x], [T] => match ev s x with
      | some v => match lenV P s.h T v with
        | some y => some (some y, s.h)
        | none => none
      | none => none
    | .append, [x, y], [T, T'] => match ev s x, ev s y with
      | some v, some u => if T = T' then (match appendD P s.h T v u with
        | some (z, h') => some (some z, h')
        | none => none) else none
      | _, _ => none
    | .max, [x, y], _ => match ev s x, ev s y with
      | some (.int k a), some (.int k' b) => some (some (.int k (if b > a then b else a)), s.h)
      | _, _ => none
    | .min, [x, y], _ => match ev s x, ev s y with
      | some (.int k a), some (.int k' b) => some (some (.int k (if b < a then b else a)), s.h)
      | _, _ => none
    | _, _, _ => none
  | _ => none
theorem optV_sound {C : Ctx} {s : St} {m : List Value} {a : Act} {w : World} (S : Sim C s m a w) {x : Option Operand} {l : Option V} (h : optV s x = some l) :
    (∀ v, l = some v → ∃ z, x.map a.eval = some z ∧ Rel (env C s.h m w) v z) ∧ (l = none → x.map a.eval = none) := by
  cases x with
  | none => simp only [optV, Option.some.injEq] at h; subst h; simp
  | some x =>
    simp only [optV] at h
    split at h
    · rename_i v hv
      simp only [Option.some.injEq] at h; subst h
      exact ⟨fun v' hv' => by cases hv'; exact ⟨_, rfl, ev_sound S hv⟩, by simp⟩
    · cases h
/-- What an operation does, held against what it is read to do. -/
def OpOk (P : Program) (C : Ctx) (s : St) (m : List Value) (w : World) (a : Act) (run : Result Next) (r : Option V) (h' : List AObj) : Prop :=
  ∃ m' w', Sim C ⟨s.t, h'⟩ m' a w' ∧ Up (env C s.h m w) (env C h' m' w') ∧ match r with
    | some v => ∃ u, run = .ok (.value u) w' ∧ Rel (env C h' m' w') v u
    | none => run = .ok .skip w'
theorem opV_sound {P : Program} (F : Facts P) {C : Ctx} {s : St} {m : List Value} {a : Act} {w : World} (S : Sim C s m a w) (o : Oper) {r : Option V} {h' : List AObj} (h : opV F s o.op = some (r, h')) :
    OpOk P C s m w a ((execOp a.eval o).run P w) r h' := by
  cases hop : o.op with
  | move x | assign x =>
    simp only [hop, opV] at h
    split at h
    · rename_i v hv
      simp only [Option.some.injEq, Prod.mk.injEq] at h
      obtain ⟨rfl, rfl⟩ := h
      exact ⟨m, w, S, Up.refl _, _, by simp [execOp, hop], ev_sound S hv⟩
    · cases h
  | pick c x y =>
    simp only [hop, opV] at h
    split at h
    · rename_i t vx vy h1 h2 h3
      simp only [Option.some.injEq, Prod.mk.injEq] at h
      obtain ⟨rfl, rfl⟩ := h
      have hc := ev_sound S h1
      simp only [Rel] at hc
      refine ⟨m, w, S, Up.refl _, if t = true then a.eval x else a.eval y, by simp [execOp, hop, hc, asBool], ?_⟩
      cases t
      · exact ev_sound S h3
      · exact ev_sound S h2
    · cases h
  | alloc T =>
    simp only [hop, opV] at h
    split at h
    · rename_i cs hz
      simp only [Option.some.injEq, Prod.mk.injEq] at h
      obtain ⟨rfl, rfl⟩ := h
      obtain ⟨u, m', w', h1, h2, h3, h4⟩ := alloc_op_sound S hz
      exact ⟨m', w', h2, h4, u, by simp [execOp, hop, h1], h3⟩
    · cases h
  | box T x =>
    simp only [hop, opV] at h
    split at h
    · rename_i v hv
      split at h
      · rename_i cs hf
        simp only [Option.some.injEq, Prod.mk.injEq] at h
        obtain ⟨rfl, rfl⟩ := h
        obtain ⟨h2, h3, h4⟩ := box_sim S T (flat_sound S (ev_sound S hv) hf).1
        exact ⟨_, _, h2, h4, _, by simp [execOp, hop, run_box], h3⟩
      · cases h
    · cases h
  | build T ps =>
    simp only [hop, opV] at h
    split at h
    · rename_i vs hv
      split at h
      · rename_i v hb
        simp only [Option.some.injEq, Prod.mk.injEq] at h
        obtain ⟨rfl, rfl⟩ := h
        obtain ⟨h1, h2⟩ := evp_sound S hv
        obtain ⟨u, hr, hR⟩ := buildV_sound S h1 h2 hb
        refine ⟨m, w, S, Up.refl _, u, ?_, hR⟩
        simp only [execOp, hop, Sem.run_bind]
        have e : (ps.map fun (i, x) => (i, a.eval x)) = (ps.toList.map fun (i, x) => (i, a.eval x)).toArray := by
          apply Array.toList_inj.1; simp
        rw [e, hr]; simp
      · cases h
    · cases h
  | buildSlice T n ps =>
    simp only [hop, opV] at h
    split at h
    · rename_i vs hv
      split at h
      · rename_i v hb
        simp only [Option.some.injEq, Prod.mk.injEq] at h
        obtain ⟨rfl, rfl⟩ := h
        obtain ⟨h1, h2⟩ := evp_sound S hv
        obtain ⟨u, w', hr, S', hR, hU⟩ := litV_sound S h1 h2 hb
        refine ⟨m, w', S', hU, u, ?_, hR⟩
        simp only [execOp, hop, Sem.run_bind]
        have e : (ps.map fun (i, x) => (i, a.eval x)) = (ps.toList.map fun (i, x) => (i, a.eval x)).toArray := by
          apply Array.toList_inj.1; simp
        rw [e, hr]; simp
      · cases h
    · cases h
  | load T x =>
    simp only [hop, opV] at h
    split at h
    · rename_i v hv
      split at h
      · rename_i y hl
        simp only [Option.some.injEq, Prod.mk.injEq] at h
        obtain ⟨rfl, rfl⟩ := h
        obtain ⟨u, hr, hR⟩ := loadV_sound S (ev_sound S hv) hl
        exact ⟨m, w, S, Up.refl _, u, by simp [execOp, hop, hr], hR⟩
      · cases h
    · cases h
  | store T p x =>
    simp only [hop, opV] at h
    split at h
    · rename_i pv v hp hv
      split at h
      · rename_i h1 hs
        simp only [Option.some.injEq, Prod.mk.injEq] at h
        obtain ⟨rfl, rfl⟩ := h
        obtain ⟨m', w', hr, S', hU⟩ := store_sound S (ev_sound S hp) (ev_sound S hv) hs
        exact ⟨m', w', S', hU, by simp [execOp, hop, hr]⟩
      · cases h
    · cases h
  | nilCheck x =>
    simp only [hop, opV] at h
    split at h
    · rename_i v hv
      split at h
      · rename_i hs
        simp only [Option.some.injEq, Prod.mk.injEq] at h
        obtain ⟨rfl, rfl⟩ := h
        have hR := ev_sound S hv
        refine ⟨m, w, S, Up.refl _, a.eval x, ?_, hR⟩
        have hsol : (∃ ad, a.eval x = .pointer (some ad)) ∨ (∃ f b c, a.eval x = .func (.func f) b c) ∨ (∃ t u, a.eval x = .iface t u) := by
          cases v with
          | ptr i off => simp only [Rel] at hR; obtain ⟨b, _, h⟩ := hR; exact .inl ⟨_, h⟩
          | ro cs => simp only [Rel] at hR; obtain ⟨ad, h, _⟩ := hR; exact .inl ⟨_, h⟩
          | aptr i n r off => obtain ⟨b, k, h⟩ := cur_aptr S hR (by simpa [solidV] using hs); exact .inl ⟨_, h⟩
          | qptr i n r off => obtain ⟨b, k, h⟩ := cur_qptr S hR (by simpa [solidV] using hs); exact .inl ⟨_, h⟩
          | fn f b c => simp only [Rel] at hR; obtain ⟨b, c, h, _⟩ := hR; exact .inr (.inl ⟨_, _, _, h⟩)
          | iface t u => simp only [Rel] at hR; obtain ⟨u, h, _⟩ := hR; exact .inr (.inr ⟨_, _, h⟩)
          | _ => simp [solidV] at hs
        rcases hsol with ⟨ad, h⟩ | ⟨f, b, c, h⟩ | ⟨t, u, h⟩ <;> simp [execOp, hop, h]
      · cases h
    · cases h
  | binOp b T x y yt =>
    simp only [hop, opV] at h
    split at h
    · rename_i v u hv hu
      split at h
      · rename_i z hz
        simp only [Option.some.injEq, Prod.mk.injEq] at h
        obtain ⟨rfl, rfl⟩ := h
        obtain ⟨uz, hr, hR⟩ := binN_sound (w := w) (ev_sound S hv) (ev_sound S hu) x y hz
        refine ⟨m, w, S, Up.refl _, uz, ?_, hR⟩
        simp only [execOp, hop]
        rw [Sem.run_bind, hr]; simp
      · cases h
    · cases h
  | unOp u T x =>
    simp only [hop, opV] at h
    split at h
    · rename_i b hv
      simp only [Option.some.injEq, Prod.mk.injEq] at h
      obtain ⟨rfl, rfl⟩ := h
      have hR := ev_sound S hv
      simp only [Rel] at hR
      exact ⟨m, w, S, Up.refl _, .bool (!b), by simp [execOp, hop, hR, Op.unary], by simp only [Rel]⟩
    · rename_i k n hv
      simp only [Option.some.injEq, Prod.mk.injEq] at h
      obtain ⟨rfl, rfl⟩ := h
      have hR := ev_sound S hv
      simp only [Rel] at hR
      exact ⟨m, w, S, Up.refl _, .int k (k.wrap (0 - n)), by simp [execOp, hop, hR, Op.unary, Op.intArith], by simp only [Rel]⟩
    · cases h
  | makeFunc fn fs cs =>
    simp only [hop, opV] at h
    cases fn with
    | func f =>
      simp only at h
      split at h
      · rename_i va vb h1 h2
        simp only [Option.some.injEq, Prod.mk.injEq] at h
        obtain ⟨rfl, rfl⟩ := h
        refine ⟨m, w, S, Up.refl _, .func (.func f) (fs.map a.eval) (cs.map a.eval), by simp [execOp, hop, Instr.makeFunc], ?_⟩
        simp only [Rel]
        exact ⟨_, _, rfl, by simpa using evs_sound S h1, by simpa using evs_sound S h2⟩
      · cases h
    | _ => simp at h
  | makeSlice T n c =>
    simp only [hop, opV] at h
    split at h
    · rename_i k k' hn hc
      split at h
      · rename_i hk; subst hk
        split at h
        · rename_i v h1 hm
          simp only [Option.some.injEq, Prod.mk.injEq] at h
          obtain ⟨rfl, rfl⟩ := h
          have e1 := ev_sound S hn
          have e2 := ev_sound S hc
          simp only [Rel] at e1 e2
          obtain ⟨u, m', w', hr, S', hR, hU⟩ := makeV_sound S (ev_sound S hn) hm
          rw [e1] at hr
          exact ⟨m', w', S', hU, u, by simp [execOp, hop, e1, e2, hr], hR⟩
        · cases h
      · cases h
    · cases h
  | slice T x lo hi mx =>
    simp only [hop, opV] at h
    cases mx with
    | some z => simp at h
    | none =>
      simp only at h
      split at h
      · rename_i v l u h1 h2 h3
        split at h
        · rename_i y hs
          simp only [Option.some.injEq, Prod.mk.injEq] at h
          obtain ⟨rfl, rfl⟩ := h
          obtain ⟨ha, hb⟩ := optV_sound S h2
          obtain ⟨hc, hd⟩ := optV_sound S h3
          obtain ⟨u', hr, hR⟩ := sliceD_sound S (ev_sound S h1) ha hb hc hd hs
          exact ⟨m, w, S, Up.refl _, u', by simp [execOp, hop, hr], hR⟩
        · cases h
      · cases h
  | fieldAddr T x f =>
    simp only [hop, opV] at h
    split at h
    · rename_i v hv
      split at h
      · rename_i y hl
        simp only [Option.some.injEq, Prod.mk.injEq] at h
        obtain ⟨rfl, rfl⟩ := h
        obtain ⟨u, hr, hR⟩ := fieldV_sound S (ev_sound S hv) hl
        exact ⟨m, w, S, Up.refl _, u, by simp [execOp, hop, hr], hR⟩
      · cases h
    · cases h
  | field T x f =>
    simp only [hop, opV] at h
    split at h
    · rename_i v hv
      split at h
      · rename_i y hl
        simp only [Option.some.injEq, Prod.mk.injEq] at h
        obtain ⟨rfl, rfl⟩ := h
        obtain ⟨u, hr, hR⟩ := fieldOfV_sound (w := w) (ev_sound S hv) hl
        exact ⟨m, w, S, Up.refl _, u, by simp [execOp, hop, hr], hR⟩
      · cases h
    · cases h
  | indexAddr T x i =>
    simp only [hop, opV] at h
    split at h
    · rename_i v k hv hk
      split at h
      · rename_i y hl
        simp only [Option.some.injEq, Prod.mk.injEq] at h
        obtain ⟨rfl, rfl⟩ := h
        obtain ⟨u, hr, hR⟩ := indexAddrV_sound S (ev_sound S hv) (ev_sound S hk) hl
        exact ⟨m, w, S, Up.refl _, u, by simp [execOp, hop, hr], hR⟩
      · cases h
    · cases h
  | index T x i =>
    simp only [hop, opV] at h
    split at h
    · rename_i v k hv hk
      split at h
      · rename_i y hl
        simp only [Option.some.injEq, Prod.mk.injEq] at h
        obtain ⟨rfl, rfl⟩ := h
        obtain ⟨u, hr, hR⟩ := indexOfV_sound (w := w) (ev_sound S hv) (ev_sound S hk) hl
        exact ⟨m, w, S, Up.refl _, u, by simp [execOp, hop, hr], hR⟩
      · cases h
    · cases h
  | extract x i =>
    simp only [hop, opV] at h
    split at h
    · rename_i cs hv
      split at h
      · rename_i y hy
        simp only [Option.some.injEq, Prod.mk.injEq] at h
        obtain ⟨rfl, rfl⟩ := h
        have hR := ev_sound S hv
        simp only [Rel] at hR
        obtain ⟨vs, he, hR⟩ := hR
        obtain ⟨u, hu, hr⟩ := RelL.get i hR hy
        simp at hu
        exact ⟨m, w, S, Up.refl _, u, by simp [execOp, hop, he, Instr.extract, hu], hr⟩
      · cases h
    · cases h
  | makeInterface T x =>
    simp only [hop, opV] at h
    split at h
    · rename_i v fs hv hu
      simp only [Option.some.injEq, Prod.mk.injEq] at h
      obtain ⟨rfl, rfl⟩ := h
      refine ⟨m, w, S, Up.refl _, .iface T (a.eval x), by simp [execOp, hop, Instr.makeInterface, run_underlying hu], ?_⟩
      simp only [Rel]
      exact ⟨_, rfl, ev_sound S hv⟩
    · cases h
  | typeAssert x xT T ok =>
    cases ok with
    | false => simp [hop, opV] at h
    | true =>
      simp only [hop, opV] at h
      split at h
      · rename_i t v fs hv hu
        have hR := ev_sound S hv
        simp only [Rel] at hR
        obtain ⟨u, he, hr⟩ := hR
        split at h
        · rename_i ht
          simp only [Option.some.injEq, Prod.mk.injEq] at h
          obtain ⟨rfl, rfl⟩ := h
          refine ⟨m, w, S, Up.refl _, .tuple #[u, .bool true], ?_, ?_⟩
          · simp [execOp, hop, he, Instr.typeAssert, run_underlying hu, ht]
          · simp only [Rel, RelL]
            exact ⟨_, rfl, u, _, rfl, hr, _, _, rfl, rfl, rfl⟩
        · rename_i ht
          split at h
          · rename_i z hz
            simp only [Option.some.injEq, Prod.mk.injEq] at h
            obtain ⟨rfl, rfl⟩ := h
            obtain ⟨uz, hrun, hrz⟩ := zeroVal_sound (E := env C s.h m w) hz w
            refine ⟨m, w, S, Up.refl _, .tuple #[uz, .bool false], ?_, ?_⟩
            · simp [execOp, hop, he, Instr.typeAssert, run_underlying hu, ht, hrun]
            · simp only [Rel, RelL]
              exact ⟨_, rfl, uz, _, rfl, hrz, _, _, rfl, rfl, rfl⟩
          · cases h
      · cases h
  | makeMap T r =>
    cases r with
    | some z => simp [hop, opV] at h
    | none =>
      simp only [hop, opV, Option.some.injEq, Prod.mk.injEq] at h
      obtain ⟨rfl, rfl⟩ := h
      obtain ⟨u, m', w', hr, S', hR, hU⟩ := makeMap_sound (P := P) S T
      exact ⟨m', w', S', hU, u, by simp [execOp, hop, hr], hR⟩
  | insert T mm k x =>
    simp only [hop, opV] at h
    split at h
    · rename_i mv kv v h1 h2 h3
      split at h
      · rename_i h4 hu
        simp only [Option.some.injEq, Prod.mk.injEq] at h
        obtain ⟨rfl, rfl⟩ := h
        obtain ⟨m', w', hr, S', hU⟩ := updateH_sound F S (ev_sound S h1) (ev_sound S h2) (ev_sound S h3) hu
        exact ⟨m', w', S', hU, by simp [execOp, hop, hr]⟩
      · cases h
    · cases h
  | mapUpdate T mm k x =>
    simp only [hop, opV] at h
    split at h
    · rename_i mv kv v h1 h2 h3
      split at h
      · rename_i h4 hu
        simp only [Option.some.injEq, Prod.mk.injEq] at h
        obtain ⟨rfl, rfl⟩ := h
        obtain ⟨m', w', hr, S', hU⟩ := updateH_sound F S (ev_sound S h1) (ev_sound S h2) (ev_sound S h3) hu
        exact ⟨m', w', S', hU, by simp [execOp, hop, hr]⟩
      · cases h
    · cases h
  | lookup T x k ok =>
    simp only [hop, opV] at h
    split at h
    · rename_i v kv h1 h2
      split at h
      · rename_i y hl
        simp only [Option.some.injEq, Prod.mk.injEq] at h
        obtain ⟨rfl, rfl⟩ := h
        obtain ⟨u, hr, hR⟩ := lookupV_sound F S (ev_sound S h1) (ev_sound S h2) hl
        exact ⟨m, w, S, Up.refl _, u, by simp [execOp, hop, hr], hR⟩
      · cases h
    · cases h
  | call c =>
    obtain ⟨callee, args, ts⟩ := c
    cases callee with
    | builtin b =>
      simp only [hop, opV] at h
      split at h
      · rename_i x T h1 h2
        obtain ⟨args⟩ := args
        obtain ⟨ts⟩ := ts
        simp only at h1 h2; subst h1; subst h2
        split at h
        · rename_i v hv
          split at h
          · rename_i y hy
            simp only [Option.some.injEq, Prod.mk.injEq] at h
            obtain ⟨rfl, rfl⟩ := h
            obtain ⟨u, hr, hR⟩ := lenV_sound (ty := o.type) S (ev_sound S hv) hy
            exact ⟨m, w, S, Up.refl _, u, by simp [execOp, hop, resolve, invoke, builtin, hr], hR⟩
          · cases h
        · cases h
      · rename_i x y T T' h1 h2
        obtain ⟨args⟩ := args
        obtain ⟨ts⟩ := ts
        simp only at h1 h2; subst h1; subst h2
        split at h
        · rename_i v u hv hu
          split at h
          · rename_i hT; subst hT
            split at h
            · rename_i z h1 hz
              simp only [Option.some.injEq, Prod.mk.injEq] at h
              obtain ⟨rfl, rfl⟩ := h
              obtain ⟨u', m', w', hr, S', hR, hU⟩ := appendD_sound (ty := o.type) S (ev_sound S hv) (ev_sound S hu) hz
              exact ⟨m', w', S', hU, u', by simp [execOp, hop, resolve, invoke, builtin, hr], hR⟩
            · cases h
          · cases h
        · cases h
      · rename_i x y h1
        obtain ⟨args⟩ := args
        simp only at h1; subst h1
        split at h
        · rename_i k a0 k' b0 hv hu
          simp only [Option.some.injEq, Prod.mk.injEq] at h
          obtain ⟨rfl, rfl⟩ := h
          have e1 := ev_sound S hv
          have e2 := ev_sound S hu
          simp only [Rel] at e1 e2
          exact ⟨m, w, S, Up.refl _, .int k (if b0 > a0 then b0 else a0), by simp [execOp, hop, resolve, invoke, builtin, e1, e2, Builtin.max_, Builtin.max2], by simp only [Rel]⟩
        · cases h
      · rename_i x y h1
        obtain ⟨args⟩ := args
        simp only at h1; subst h1
        split at h
        · rename_i k a0 k' b0 hv hu
          simp only [Option.some.injEq, Prod.mk.injEq] at h
          obtain ⟨rfl, rfl⟩ := h
          have e1 := ev_sound S hv
          have e2 := ev_sound S hu
          simp only [Rel] at e1 e2
          exact ⟨m, w, S, Up.refl _, .int k (if b0 < a0 then b0 else a0), by simp [execOp, hop, resolve, invoke, builtin, e1, e2, Builtin.min_, Builtin.min2], by simp only [Rel]⟩
        · cases h
      · cases h
    | _ => simp only [hop, opV] at h; cases h
  | _ => simp only [hop, opV] at h; cases h
end Go.Ab
namespace Go.Ab
open Go Go.RowKit
set_option linter.unusedVariables false

/-! ### what is kept from an earlier state on -/
structure LeN (E E' : Env) : Prop where
  len : E.h.length ≤ E'.h.length
  le : Env.Le (fun i => decide (i < E.h.length)) E E'
theorem Env.Le.weaken {p q : Nat → Bool} {E E' : Env} (h : Env.Le p E E') (hq : ∀ i, q i = true → p i = true) : Env.Le q E E' :=
  ⟨h.nb, h.wk, h.sz, fun i hi => h.mp i (hq i hi), fun i hi => h.ma i (hq i hi), fun i hi => h.mq i (hq i hi)⟩
theorem Env.Le.refl (p : Nat → Bool) (E : Env) : Env.Le p E E :=
  ⟨fun _ _ h => h, fun _ _ _ => rfl, Nat.le_refl _, fun _ _ _ h _ => h, fun i _ h => ⟨h, fun T sz rows fr ho => ⟨T, rows, fr, ho, Nat.le_refl _, fun _ => rfl⟩⟩, fun i _ T sz rows ho => ⟨rows, ho, Nat.le_refl _, fun _ => rfl⟩⟩
theorem Env.Le.trans {p : Nat → Bool} {A B D : Env} (h : Env.Le p A B) (k : Env.Le p B D) : Env.Le p A D := by
  refine ⟨fun b hb hd => h.nb b hb (k.nb b (Nat.lt_of_lt_of_le hb h.sz) hd), fun b hb hn => ?_, Nat.le_trans h.sz k.sz, fun i hi v hv hs => k.mp i hi v (h.mp i hi v hv hs) hs, fun i hi hl => ?_, fun i hi T sz rows ho => ?_⟩
  · exact (k.wk b (Nat.lt_of_lt_of_le hb h.sz) (fun hb' => hn (h.nb b hb hb'))).trans (h.wk b hb hn)
  · obtain ⟨h1, h2⟩ := h.ma i hi hl
    obtain ⟨h3, h4⟩ := k.ma i hi h1
    refine ⟨h3, fun T sz rows fr ho => ?_⟩
    obtain ⟨T1, rows1, fr1, ho1, hle1, he1⟩ := h4 T sz rows fr ho
    obtain ⟨T2, rows2, fr2, ho2, hle2, he2⟩ := h2 T1 sz rows1 fr1 ho1
    exact ⟨T2, rows2, fr2, ho2, Nat.le_trans hle2 hle1, fun e => by rw [he1 (by omega), he2 (by omega)]⟩
  · obtain ⟨rows1, ho1, hle1, he1⟩ := h.mq i hi T sz rows ho
    obtain ⟨rows2, ho2, hle2, he2⟩ := k.mq i hi T sz rows1 ho1
    exact ⟨rows2, ho2, Nat.le_trans hle1 hle2, fun e => by rw [he2 (by omega), he1 (by omega)]⟩
theorem LeN.refl (E : Env) : LeN E E := ⟨Nat.le_refl _, Env.Le.refl _ _⟩
theorem LeN.trans {A B D : Env} (h : LeN A B) (k : LeN B D) : LeN A D :=
  ⟨Nat.le_trans h.len k.len, h.le.trans (k.le.weaken (fun i hi => by have := h.len; simp at *; omega))⟩
theorem LeN.of {E E' : Env} (hl : E.h.length ≤ E'.h.length) (h : Env.Le (fun _ => true) E E') : LeN E E' := ⟨hl, h.weaken (fun _ _ => rfl)⟩
theorem le_world {C : Ctx} {h : List AObj} {m : List Value} {w w1 : World} (hb : Below w.heap.size w w1) : Env.Le (fun _ => true) (env C h m w) (env C h m w1) :=
  ⟨fun b _ h => h, fun b hb' _ => hb.block b hb', hb.size, fun i _ v h _ => h, fun i _ h => ⟨h, fun T sz rows fr ho => ⟨T, rows, fr, ho, Nat.le_refl _, fun _ => rfl⟩⟩, fun i _ T sz rows ho => ⟨rows, ho, Nat.le_refl _, fun _ => rfl⟩⟩
mutual
theorem Rel.ids {E : Env} {N : Nat} (hm : E.m.length ≤ N) (hh : E.h.length ≤ N) : ∀ (x : V) (u : Value), Rel E x u → x.all (fun i => decide (i < N)) = true
  | .bool _, _, _ | .int _ _, _, _ | .str _, _, _ | .nil, _, _ | .nilptr, _, _ | .nilfn, _, _ | .nilif, _, _ | .undef, _, _ => by simp only [V.all]
  | .sl sz rows, u, h => by
    simp only [Rel, V.all] at *
    obtain ⟨A, c, rfl, _, h⟩ := h
    rcases h with rfl | ⟨ad, _, _, _, h⟩
    · simp only [V.allR]
    · exact RelRows.ids hm hh rows h
  | .agg cs, u, h => by simp only [Rel, V.all] at *; obtain ⟨vs, _, h⟩ := h; exact RelL.ids hm hh cs h
  | .tup cs, u, h => by simp only [Rel, V.all] at *; obtain ⟨vs, _, h⟩ := h; exact RelL.ids hm hh cs h
  | .ro cs, u, h => by simp only [Rel, V.all] at *; obtain ⟨ad, _, _, _, h⟩ := h; exact RelCells.ids hm hh cs h
  | .ptr i off, u, h => by
    simp only [Rel, V.all] at *
    obtain ⟨b, h, _⟩ := h
    have := (List.getElem?_eq_some_iff.1 h).1
    simp; omega
  | .arr i n, u, h => by simp only [Rel, V.all] at *; have := h.1; simp; omega
  | .aptr i n r o, u, h => by simp only [Rel, V.all] at *; have := h.1; simp; omega
  | .arrd i n k, u, h => by simp only [Rel, V.all] at *; obtain ⟨_, _, _, h, _⟩ := h; have := (List.getElem?_eq_some_iff.1 h).1; simp; omega
  | .qptr i n r o, u, h => by simp only [Rel, V.all] at *; obtain ⟨_, _, _, h, _⟩ := h; have := (List.getElem?_eq_some_iff.1 h).1; simp; omega
  | .yield i, u, h => by
    simp only [Rel, V.all] at *
    obtain ⟨b, h, _⟩ := h
    have := (List.getElem?_eq_some_iff.1 h).1
    simp; omega
  | .fn f a b, u, h => by simp only [Rel, V.all, Bool.and_eq_true] at *; obtain ⟨x, y, _, h1, h2⟩ := h; exact ⟨RelL.ids hm hh a h1, RelL.ids hm hh b h2⟩
  | .iface t x, u, h => by simp only [Rel, V.all] at *; obtain ⟨y, _, h⟩ := h; exact Rel.ids hm hh x y h
  | .map i, u, h => by
    simp only [Rel, V.all] at *
    obtain ⟨b, h, _⟩ := h
    have := (List.getElem?_eq_some_iff.1 h).1
    simp; omega
theorem RelL.ids {E : Env} {N : Nat} (hm : E.m.length ≤ N) (hh : E.h.length ≤ N) : ∀ (xs : List V) {us : List Value}, RelL E xs us → V.allL (fun i => decide (i < N)) xs = true
  | [], _, _ => by simp only [V.allL]
  | c :: cs, us, h => by simp only [RelL, V.allL, Bool.and_eq_true] at *; obtain ⟨u, us', _, h1, h2⟩ := h; exact ⟨Rel.ids hm hh c u h1, RelL.ids hm hh cs h2⟩
theorem RelCells.ids {E : Env} {N : Nat} (hm : E.m.length ≤ N) (hh : E.h.length ≤ N) : ∀ (xs : List V) {ad : Addr} {k : Nat}, RelCells E ad k xs → V.allL (fun i => decide (i < N)) xs = true
  | [], _, _, _ => by simp only [V.allL]
  | c :: cs, ad, k, h => by simp only [RelCells, V.allL, Bool.and_eq_true] at *; obtain ⟨⟨u, _, h1⟩, h2⟩ := h; exact ⟨Rel.ids hm hh c u h1, RelCells.ids hm hh cs h2⟩
theorem RelRows.ids {E : Env} {N : Nat} (hm : E.m.length ≤ N) (hh : E.h.length ≤ N) : ∀ (xs : List (List V)) {ad : Addr} {sz k : Nat}, RelRows E ad sz k xs → V.allR (fun i => decide (i < N)) xs = true
  | [], _, _, _, _ => by simp only [V.allR]
  | r :: rs, ad, sz, k, h => by simp only [RelRows, V.allR, Bool.and_eq_true] at *; exact ⟨RelCells.ids hm hh r h.2.1, RelRows.ids hm hh rs h.2.2⟩
end
theorem RelL.leN {E E' : Env} (L : LeN E E') (hm : E.m.length ≤ E.h.length) {xs : List V} {us : List Value} (h : RelL E xs us) : RelL E' xs us :=
  RelL.mono L.le xs us (RelL.ids hm (Nat.le_refl _) xs h) h
theorem Rel.leN {E E' : Env} (L : LeN E E') (hm : E.m.length ≤ E.h.length) {x : V} {u : Value} (h : Rel E x u) : Rel E' x u :=
  Rel.mono L.le x u (Rel.ids hm (Nat.le_refl _) x u h) h
end Go.Ab
namespace Go.Ab
open Go Go.RowKit
set_option linter.unusedVariables false

def puts (t : List V) (d : Option Tmp) (x : V) : List V :=
  match d with
  | some d => t.set d x
  | none => t
theorem Sim.puts {C : Ctx} {s : St} {m : List Value} {a : Act} {w : World} (S : Sim C s m a w) (d : Option Tmp) {x : V} {u : Value} (h : Rel (env C s.h m w) x u) : Sim C ⟨Ab.puts s.t d x, s.h⟩ m (a.put d u) w := by
  have := S.put d h
  cases d <;> exact this
theorem rel_undef {E : Env} : Rel E (.tup []) undef := by
  simp only [Rel, RelL, undef]
  exact ⟨#[], rfl, rfl⟩
/-- Calling function g with these values: it hands back r, and the heap is h' then. -/
def RetS (P : Program) (g : FuncId) (args : List V) (h : List AObj) (r : V) (h' : List AObj) : Prop :=
  ∀ (C : Ctx) (t : List V) (m : List Value) (a : Act) (w : World) (cargs : Array Value), Sim C ⟨t, h⟩ m a w → RelL (env C h m w) args cargs.toList →
    Calls P g cargs w fun e w' => ∃ v m', e = .returned v ∧ Sim C ⟨t, h'⟩ m' a w' ∧ Rel (env C h' m' w') r v ∧ LeN (env C h m w) (env C h' m' w')
def FW (ro : Option Nat) : Fence := { Fence.wide with round := ro }
/-- Calling the yield of the loop that the heap holds at i: one round of it. -/
def RetY (P : Program) (i : Nat) (args : List V) (h : List AObj) (r : V) (h' : List AObj) : Prop :=
  ∀ (C : Ctx) (t : List V) (m : List Value) (a : Act) (w : World) (cargs : Array Value) (ro : Option Nat) (b : Nat), Sim C ⟨t, h⟩ m a w → RelL (env C h m w) args cargs.toList → m[i]? = some (.func (.yield b) #[] #[]) →
    ∃ fn tmps asg bd, (Instr.yield b cargs).run P w = .ok (.round b fn tmps asg bd) w ∧
      RoundIn (FW ro) 0 P b fn tmps asg bd w fun e w' => ∃ v m', e = .returned v ∧ Sim C ⟨t, h'⟩ m' a w' ∧ Rel (env C h' m' w') r v ∧ LeN (env C h m w) (env C h' m' w')
/-- Is the operation carried out? -/
def wantedV (ops : Array Oper) (s : St) (o : Oper) : Option Bool :=
  match o.guard with
  | none => some true
  | some (j, want) => match (ops[j]?).bind (·.dst) with
    | some d => match s.t[d]? with
      | some (.bool b) => some (b == want)
      | some (.tup _) => some false
      | _ => none
    | none => none
theorem wantedV_sound {C : Ctx} {s : St} {m : List Value} {a : Act} {w : World} (S : Sim C s m a w) {ops : Array Oper} {o : Oper} {b : Bool} (h : wantedV ops s o = some b) : Region.wanted o (yielded ops a.tmps) = b := by
  unfold wantedV at h
  unfold Region.wanted yielded
  split at h
  · rename_i hg
    simp only [Option.some.injEq] at h
    simp [hg, h]
  · rename_i j want hg
    simp only [hg]
    split at h
    · rename_i d hd
      simp only [hd]
      split at h
      · rename_i b0 ht
        simp only [Option.some.injEq] at h
        obtain ⟨u, hu, hr⟩ := RelL.get d S.slots ht
        simp only [Rel] at hr; subst hr
        simp at hu
        simp [hu, ← h]
      · rename_i cs ht
        simp only [Option.some.injEq] at h
        obtain ⟨u, hu, hr⟩ := RelL.get d S.slots ht
        simp only [Rel] at hr
        obtain ⟨vs, rfl, _⟩ := hr
        simp at hu
        simp [hu, ← h]
      · cases h
    · cases h
/-- One operation of a region. -/
inductive StepR {P : Program} (F : Facts P) (ops : Array Oper) (i : Nat) (s : St) : St → Prop
  | skip {o : Oper} (ho : ops[i]? = some o) (hw : wantedV ops s o = some false) : StepR F ops i s ⟨puts s.t o.dst (.tup []), s.h⟩
  | val {o : Oper} {v : V} {h' : List AObj} (ho : ops[i]? = some o) (hw : wantedV ops s o = some true) (hop : opV F s o.op = some (some v, h')) : StepR F ops i s ⟨puts s.t o.dst v, h'⟩
  | eff {o : Oper} {h' : List AObj} (ho : ops[i]? = some o) (hw : wantedV ops s o = some true) (hop : opV F s o.op = some (none, h')) : StepR F ops i s ⟨puts s.t o.dst (.tup []), h'⟩
  | call {o : Oper} {x : Operand} {args : Array Operand} {ts : Array TypeId} {g : FuncId} {first caps vs : List V} {r : V} {h' : List AObj} (ho : ops[i]? = some o) (hw : wantedV ops s o = some true)
      (hop : o.op = .call ⟨.value x, args, ts⟩) (hx : ev s x = some (.fn g first caps)) (ha : evs s args.toList = some vs) (hb : ∃ fn, P.funcs[g]? = some fn ∧ fn.body.isSome = true ∧ (fn.name == "runtime.NumGoroutine") = false)
      (hr : RetS P g (first ++ vs ++ caps) s.h r h') : StepR F ops i s ⟨puts s.t o.dst r, h'⟩
  | yld {o : Oper} {x : Operand} {args : Array Operand} {ts : Array TypeId} {j : Nat} {vs : List V} {r : V} {h' : List AObj} (ho : ops[i]? = some o) (hw : wantedV ops s o = some true)
      (hop : o.op = .call ⟨.value x, args, ts⟩) (hx : ev s x = some (.yield j)) (ha : evs s args.toList = some vs) (hr : RetY P j vs s.h r h') : StepR F ops i s ⟨puts s.t o.dst r, h'⟩
theorem Calls.inFW {P : Program} {f : FuncId} {args : Array Value} {w : World} {R : Ending → World → Prop} (ro : Option Nat) (n : Nat) (h : Calls P f args w R) : CallsIn (FW ro) n P f args w R := by
  have h' := (callsIn_wide (n := n)).2 h
  exact h'
theorem Up.leN {E E' : Env} (h : Up E E') : LeN E E' := LeN.of h.1 h.2
/-- One operation, carried out on the machine. -/
theorem StepR.sound {P : Program} {F : Facts P} {ops : Array Oper} {i : Nat} {s s' : St} (h : StepR F ops i s s') (ro : Option Nat) {C : Ctx} {m : List Value} {a : Act} {w : World} (S : Sim C s m a w) {l : List Nat} {Q : Exit → Act → World → Prop}
    (k : ∀ m' a' w', Sim C s' m' a' w' → LeN (env C s.h m w) (env C s'.h m' w') → wpOpsIn (FW ro) 0 P ops Q l a' w') : wpOpsIn (FW ro) 0 P ops Q (i :: l) a w := by
  unfold wpOpsIn
  cases h with
  | skip ho hw =>
    simp only [ho, wantedV_sound S hw, Bool.false_eq_true, if_false]
    exact ⟨fun _ _ => trivial, k m _ w (S.puts _ rel_undef) (LeN.refl _)⟩
  | @val o v h' ho hw hop =>
    simp only [ho, wantedV_sound S hw, if_true]
    obtain ⟨m', w', S', hU, u, hrun, hR⟩ := opV_sound F S o hop
    refine ⟨fun _ _ => trivial, ?_⟩
    rw [Oper.semAt_eq _ _ _ (fun c hc => by simp [hc, opV] at hop), hrun]
    exact k m' _ w' (S'.puts _ hR) hU.leN
  | @eff o h' ho hw hop =>
    simp only [ho, wantedV_sound S hw, if_true]
    obtain ⟨m', w', S', hU, hrun⟩ := opV_sound F S o hop
    refine ⟨fun _ _ => trivial, ?_⟩
    rw [Oper.semAt_eq _ _ _ (fun c hc => by simp [hc, opV] at hop), hrun]
    exact k m' _ w' (S'.puts _ rel_undef) hU.leN
  | @call o x args ts g first caps vs r h' ho hw hop hx ha hb hr =>
    simp only [ho, wantedV_sound S hw, if_true]
    refine ⟨fun _ _ => trivial, ?_⟩
    rw [Oper.semAt_eq _ _ _ (fun c hc => by simp [hc] at hop)]
    have hRx := ev_sound S hx
    simp only [Rel] at hRx
    obtain ⟨fa, ca, he, h1, h2⟩ := hRx
    have hRa := evs_sound S ha
    obtain ⟨fn, hfn, hbody, hname⟩ := hb
    have hnb : ¬ fn.body = none := fun e => by simp [e] at hbody
    have hne : ¬ fn.name = "runtime.NumGoroutine" := by simpa using hname
    have hcf : ∀ cargs, (callFunc g cargs).run P w = .ok (.enter g cargs) w := fun cargs => by
      simp [callFunc, hfn, hne, hnb]
    have hrun : (execOp a.eval o).run P w = .ok (.enter g (fa ++ args.map a.eval ++ ca)) w := by
      simp [execOp, hop, resolve, he, Deferred.ofValue, invoke, hcf]
    rw [hrun]
    refine ⟨fun h => by simp [FW, Fence.wide] at h, Calls.inFW ro _ ?_⟩
    have hargs : RelL (env C s.h m w) (first ++ vs ++ caps) (fa ++ args.map a.eval ++ ca).toList := by
      simp only [Array.toList_append, Array.toList_map]
      exact (h1.append hRa).append h2
    refine Calls.mono (hr C s.t m a w _ S hargs) ?_
    rintro e w' ⟨v, m', rfl, S', hR, hL⟩
    exact k m' _ w' (S'.puts _ hR) hL
  | @yld o x args ts j vs r h' ho hw hop hx ha hr =>
    simp only [ho, wantedV_sound S hw, if_true]
    refine ⟨fun _ _ => trivial, ?_⟩
    rw [Oper.semAt_eq _ _ _ (fun c hc => by simp [hc] at hop)]
    have hRx := ev_sound S hx
    simp only [Rel] at hRx
    obtain ⟨b, hm, he⟩ := hRx
    obtain ⟨fn, tmps, asg, bd, hy, hround⟩ := hr C s.t m a w (args.map a.eval) ro b S (by simpa using evs_sound S ha) hm
    have hrun : (execOp a.eval o).run P w = .ok (.round b fn tmps asg bd) w := by
      simp [execOp, hop, resolve, he, Deferred.ofValue, invoke, hy]
    rw [hrun]
    refine ⟨fun h => by simp [FW, Fence.wide] at h, hround.mono ?_⟩
    rintro e w' ⟨v, m', rfl, S', hR, hL⟩
    exact k m' _ w' (S'.puts _ hR) hL
/-- Several operations, one behind the other. -/
inductive RunR {P : Program} (F : Facts P) (ops : Array Oper) : List Nat → St → St → Prop
  | nil {s : St} : RunR F ops [] s s
  | cons {i : Nat} {l : List Nat} {s s1 s2 : St} (h : StepR F ops i s s1) (k : RunR F ops l s1 s2) : RunR F ops (i :: l) s s2
theorem RunR.sound {P : Program} {F : Facts P} {ops : Array Oper} {l : List Nat} {s s' : St} (h : RunR F ops l s s') (ro : Option Nat) : ∀ {C : Ctx} {m : List Value} {a : Act} {w : World} (S : Sim C s m a w) {Q : Exit → Act → World → Prop}
    (k : ∀ m' a' w', Sim C s' m' a' w' → LeN (env C s.h m w) (env C s'.h m' w') → Q .normal a' w'), wpOpsIn (FW ro) 0 P ops Q l a w := by
  induction h with
  | nil =>
    intro C m a w S Q k
    unfold wpOpsIn
    exact k m a w S (LeN.refl _)
  | cons h1 h2 ih =>
    intro C m a w S Q k
    exact h1.sound ro S (fun m1 a1 w1 S1 L1 => ih S1 (fun m2 a2 w2 S2 L2 => k m2 a2 w2 S2 (L1.trans L2)))
/-! ### the judgement -/
def Post (C : Ctx) (E0 : Env) (K : Exit → St → Prop) (x : Exit) (a : Act) (w : World) : Prop := ∃ s m, K x s ∧ Sim C s m a w ∧ LeN E0 (env C s.h m w)
/-- The code c, begun in s, ends as K says; what has less than b as its number lives on. -/
def T (P : Program) (b : Nat) (ro : Option Nat) (c : Code) (s : St) (K : Exit → St → Prop) : Prop :=
  ∀ (C : Ctx) (E0 : Env) (m : List Value) (a : Act) (w : World), E0.h.length = b → LeN E0 (env C s.h m w) → Sim C s m a w → c.wpIn (FW ro) 0 P (Post C E0 K) a w
section rules
variable {P : Program} {b : Nat} {ro : Option Nat} {s : St} {K : Exit → St → Prop}
theorem T.mono {c : Code} {K' : Exit → St → Prop} (h : T P b ro c s K) (k : ∀ x s, K x s → K' x s) : T P b ro c s K' :=
  fun C E0 m a w hb L S => wpIn_mono (h C E0 m a w hb L S) (fun x a' w' ⟨s', m', hk, S', L'⟩ => ⟨s', m', k _ _ hk, S', L'⟩)
theorem T_skip (h : K .normal s) : T P b ro .skip s K := fun C E0 m a w hb L S => wpIn_skip ⟨s, m, h, S, L⟩
theorem T_exit {id : Nat} (h : K (.exit id) s) : T P b ro (.exit id) s K := fun C E0 m a w hb L S => wpIn_exit ⟨s, m, h, S, L⟩
theorem T_ret (h : K .ret s) : T P b ro .ret s K := fun C E0 m a w hb L S => wpIn_ret ⟨s, m, h, S, L⟩
def seqK (P : Program) (b : Nat) (ro : Option Nat) (y : Code) (K : Exit → St → Prop) : Exit → St → Prop
  | .normal, s => T P b ro y s K
  | x, s => K x s
theorem T_seq {x y : Code} (h : T P b ro x s (seqK P b ro y K)) : T P b ro (.seq x y) s K := fun C E0 m a w hb L S => by
  refine wpIn_seq (wpIn_mono (h C E0 m a w hb L S) ?_)
  rintro e a' w' ⟨s', m', hk, S', L'⟩
  cases e with
  | normal => exact hk C E0 m' a' w' hb L' S'
  | _ => exact ⟨s', m', hk, S', L'⟩
theorem T_cond {c : Operand} {x y : Code} {t : Bool} (hc : ev s c = some (.bool t)) (h : if t = true then T P b ro x s K else T P b ro y s K) : T P b ro (.cond c x y) s K := fun C E0 m a w hb L S => by
  have := ev_sound S hc
  simp only [Rel] at this
  refine wpIn_cond this ?_
  cases t
  · exact h C E0 m a w hb L S
  · exact h C E0 m a w hb L S
def blockK (id : Nat) (K : Exit → St → Prop) : Exit → St → Prop
  | .exit j, s => if j = id then K .normal s else K (.exit j) s
  | x, s => K x s
theorem T_block {id : Nat} {c : Code} (h : T P b ro c s (blockK id K)) : T P b ro (.block id c) s K := fun C E0 m a w hb L S => by
  refine wpIn_block (wpIn_mono (h C E0 m a w hb L S) ?_)
  rintro e a' w' ⟨s', m', hk, S', L'⟩
  cases e with
  | exit j =>
    simp only [blockK] at hk
    simp only [Exit.inBlock]
    split
    · rename_i hj; rw [if_pos hj] at hk; exact ⟨s', m', hk, S', L'⟩
    · rename_i hj; rw [if_neg hj] at hk; exact ⟨s', m', hk, S', L'⟩
  | _ => exact ⟨s', m', hk, S', L'⟩
theorem T_region {id : Nat} {ops : Array Oper} {s' : St} {F : Facts P} (h : RunR F ops (List.range ops.size) s s') (k : K .normal s') : T P b ro (.region id ops false) s K := fun C E0 m a w hb L S =>
  wpIn_region (h.sound ro S (fun m' a' w' S' L' => ⟨s', m', k, S', L.trans L'⟩))
theorem T_loop {c : Code} (I : St → Prop) (μ : St → Nat) (h0 : I s) (round : ∀ s, I s → T P b ro c s (fun x s' => match x with | .normal => I s' ∧ μ s' < μ s | x => K x s')) : T P b ro (.loop c) s K := by
  intro C E0 m a w hb L S fr k cs hro hfn hroom
  have key : ∀ (j : Nat) s m a w, μ s = j → I s → LeN E0 (env C s.h m w) → Sim C s m a w →
      ∃ e a' w', Post C E0 K e a' w' ∧ ArrivesIn (Machine.fenced P (FW ro)) P (lone (fr.atR a (.code c :: .inLoop c :: k)) cs w) fr k cs e a' w' := by
    intro j
    induction j using Nat.strongRecOn with
    | _ j ih =>
      intro s m a w hn hI L S
      obtain ⟨e, a1, w1, ⟨s1, m1, hk, S1, L1⟩, harr⟩ := round s hI C E0 m a w hb L S fr (.inLoop c :: k) cs hro hfn hroom
      cases e with
      | normal =>
        obtain ⟨hI1, hlt⟩ := hk
        obtain ⟨e2, a2, w2, hq2, harr2⟩ := ih (μ s1) (hn ▸ hlt) s1 m1 a1 w1 rfl hI1 L1 S1
        exact ⟨e2, a2, w2, hq2, .of_steps (StepsIn.trans harr (.one (fenced_calm hfn hroom rfl) stepR_inLoop)) harr2⟩
      | exit id => exact ⟨_, a1, w1, ⟨s1, m1, hk, S1, L1⟩, .pass (x := .inLoop c) rfl (fun _ _ => .inl (by simp)) harr⟩
      | goto l => exact ⟨_, a1, w1, ⟨s1, m1, hk, S1, L1⟩, .pass (x := .inLoop c) rfl (fun _ _ => .inl (by simp)) harr⟩
      | ret => exact ⟨_, a1, w1, ⟨s1, m1, hk, S1, L1⟩, .pass (x := .inLoop c) rfl (fun _ _ => .inl (by simp)) harr⟩
      | panic ch => exact ⟨_, a1, w1, ⟨s1, m1, hk, S1, L1⟩, .pass (x := .inLoop c) rfl (fun _ _ => .inl (by simp)) harr⟩
      | outgrown => exact ⟨_, a1, w1, ⟨s1, m1, hk, S1, L1⟩, .pass (x := .inLoop c) rfl (fun _ _ => .inl (by simp)) harr⟩
  obtain ⟨e, a', w', hq, harr⟩ := key _ s m a w rfl h0 L S
  exact ⟨e, a', w', hq, .of_steps (.one (fenced_calm hfn hroom rfl) stepR_loop) harr⟩
/-! ### forgetting -/
/-- Slots may be forgotten. -/
def forget : List Bool → List V → List V
  | [], t => t
  | true :: bs, x :: t => x :: forget bs t
  | false :: bs, x :: t => .undef :: forget bs t
  | _ :: _, [] => []
theorem RelL.forget {E : Env} : ∀ (bs : List Bool) {t : List V} {us : List Value}, RelL E t us → RelL E (forget bs t) us
  | [], t, us, h => by simpa only [Ab.forget] using h
  | true :: bs, [], us, h => by simpa only [Ab.forget] using h
  | false :: bs, [], us, h => by simpa only [Ab.forget] using h
  | true :: bs, x :: t, us, h => by
    simp only [RelL, Ab.forget] at *
    obtain ⟨u, us', rfl, h1, h2⟩ := h
    exact ⟨u, us', rfl, h1, RelL.forget bs h2⟩
  | false :: bs, x :: t, us, h => by
    simp only [RelL, Ab.forget] at *
    obtain ⟨u, us', rfl, h1, h2⟩ := h
    exact ⟨u, us', rfl, by simp only [Rel], RelL.forget bs h2⟩
theorem T_forget {c : Code} (bs : List Bool) (h : T P b ro c ⟨forget bs s.t, s.h⟩ K) : T P b ro c s K := fun C E0 m a w hb L S =>
  h C E0 m a w hb L ⟨S.below, S.out, S.len, RelL.forget bs S.slots, S.defers, S.objs, S.apart, S.low⟩
def AObj.all (p : Nat → Bool) : AObj → Bool
  | .box _ cs => V.allL p cs
  | .arr _ _ rows _ => V.allL p rows.flatten
  | .map es => V.allL p (es.map (·.1)) && V.allL p (es.map (·.2))
  | .que _ _ rows => V.allL p rows.flatten
  | .loop _ _ t _ _ _ => V.allL p t
  | .dead => true
theorem V.allL_append {p : Nat → Bool} : ∀ (xs ys : List V), V.allL p (xs ++ ys) = (V.allL p xs && V.allL p ys)
  | [], ys => by simp [V.allL]
  | c :: cs, ys => by simp [V.allL, V.allL_append cs ys, Bool.and_assoc]
theorem V.allL_drop {p : Nat → Bool} {xs : List V} (k : Nat) (h : V.allL p xs = true) : V.allL p (xs.drop k) = true := by
  have := V.allL_append (p := p) (xs.take k) (xs.drop k)
  rw [List.take_append_drop, h] at this
  simp only [Bool.true_eq, Bool.and_eq_true] at this
  exact this.2
theorem V.allL_flatten_drop {p : Nat → Bool} : ∀ (rows : List (List V)) (k : Nat), V.allL p rows.flatten = true → V.allL p (rows.drop k).flatten = true
  | rows, 0, h => h
  | [], k + 1, h => by simpa using h
  | r :: rows, k + 1, h => by
    simp only [List.flatten_cons, V.allL_append, Bool.and_eq_true] at h
    exact V.allL_flatten_drop rows k h.2
theorem RelObj.monoC {C : Ctx} {E E' : Env} {v : Value} {o : AObj} {p : Nat → Bool} (L : Env.LeC p E E') (hp : o.all p = true) (hb : ∀ b, blk v = some b → E'.w.heap[b]? = E.w.heap[b]?) (h : RelObj C E v o) : RelObj C E' v o := by
  cases o with
  | box T cs =>
    obtain ⟨b, vs, rfl, h1, h2, h3⟩ := h
    exact ⟨b, vs, rfl, h1, (hb b rfl).trans h2, RelL.monoC L _ _ hp h3⟩
  | arr T sz rows fr =>
    obtain ⟨us, ⟨h0, h1⟩, h2, h3⟩ := h
    refine ⟨us, ⟨h0, ?_⟩, RelL.monoC L _ _ hp h2, h3⟩
    rcases h1 with h1 | ⟨g, cap, cur, rfl, hg, hh, hr⟩
    · exact .inl h1
    · exact .inr ⟨g, cap, cur, rfl, hg, (hb g rfl).trans hh, hr⟩
  | map es =>
    simp only [AObj.all, Bool.and_eq_true] at hp
    obtain ⟨b, clock, es', rfl, h1, h2, h3, h4⟩ := h
    exact ⟨b, clock, es', rfl, h1, (hb b rfl).trans h2, RelL.monoC L _ _ hp.1 h3, RelL.monoC L _ _ hp.2 h4⟩
  | que T sz rows =>
    obtain ⟨us, j, hj, ⟨h0, h1⟩, h2, h3⟩ := h
    refine ⟨us, j, hj, ⟨h0, ?_⟩, RelL.monoC L _ _ (V.allL_flatten_drop rows j hp) h2, h3⟩
    rcases h1 with h1 | ⟨g, cap, cur, rfl, hg, hh, hr⟩
    · exact .inl h1
    · exact .inr ⟨g, cap, cur, rfl, hg, (hb g rfl).trans hh, hr⟩
  | loop st pe t ps asg bd =>
    obtain ⟨b, fn, us, df, rfl, h1, h2, h3⟩ := h
    exact ⟨b, fn, us, df, rfl, h1, (hb b rfl).trans h2, RelL.monoC L _ _ hp h3⟩
  | dead => trivial
theorem RelObj.mono {C : Ctx} {E E' : Env} {v : Value} {o : AObj} {p : Nat → Bool} (L : Env.Le p E E') (hp : o.all p = true) (hb : ∀ b, blk v = some b → E'.w.heap[b]? = E.w.heap[b]?) (h : RelObj C E v o) : RelObj C E' v o := RelObj.monoC L.c hp hb h
/-- Objects from number n on may be forgotten where nothing leads to them any more. -/
theorem Sim.cut {C : Ctx} {s : St} {m : List Value} {a : Act} {w : World} (S : Sim C s m a w) (n : Nat) (hn : n ≤ s.h.length) (ht : V.allL (fun i => decide (i < n)) s.t = true) (hh : ∀ o ∈ s.h.take n, o.all (fun i => decide (i < n)) = true) :
    Sim C ⟨s.t, s.h.take n⟩ (m.take n) a w ∧ (∀ E0 : Env, E0.h.length ≤ n → LeN E0 (env C s.h m w) → LeN E0 (env C (s.h.take n) (m.take n) w)) ∧ Env.Le (fun i => decide (i < n)) (env C s.h m w) (env C (s.h.take n) (m.take n) w) := by
  have hl := S.len
  have L : Env.Le (fun i => decide (i < n)) (env C s.h m w) (env C (s.h.take n) (m.take n) w) := by
    refine ⟨fun b hb h => ?_, fun _ _ _ => rfl, Nat.le_refl _, fun i hi v hv _ => ?_, fun i hi hlt => ?_, fun i hi T sz rows ho => ?_⟩
    · rcases h with h | ⟨i, o, v, h1, h2, h3, h4⟩
      · exact .inl h
      · rw [List.getElem?_take] at h1 h3
        split at h1
        · rename_i hin
          rw [if_pos hin] at h3
          exact .inr ⟨i, o, v, h1, h2, h3, h4⟩
        · cases h1
    · simp only [env] at *
      rw [List.getElem?_take, if_pos (by simpa using hi)]; exact hv
    · have hin : i < n := by simpa using hi
      simp only [env] at *
      refine ⟨by simp; omega, fun T sz rows fr ho => ?_⟩
      rw [List.getElem?_take, if_pos hin] at ho
      exact ⟨T, rows, fr, ho, Nat.le_refl _, fun _ => by rw [List.getElem?_take, if_pos hin]⟩
    · have hin : i < n := by simpa using hi
      simp only [env] at *
      exact ⟨rows, by rw [List.getElem?_take, if_pos hin]; exact ho, Nat.le_refl _, fun _ => by rw [List.getElem?_take, if_pos hin]⟩
  refine ⟨⟨S.below, S.out, by simp; omega, RelL.mono L _ _ ht S.slots, S.defers.le L, fun i o v ho hv => ?_, fun i j v u b hij hv hu => ?_, fun i v b hv => ?_⟩, fun E0 h0 hL => ⟨by simp [env]; omega, ?_⟩, L⟩
  · have ho' := ho
    rw [List.getElem?_take] at ho hv
    split at ho
    · rename_i hin
      rw [if_pos hin] at hv
      exact RelObj.mono L (hh o (List.mem_of_getElem? ho')) (fun _ _ => rfl) (S.objs i o v ho hv)
    · cases ho
  · rw [List.getElem?_take] at hv hu
    split at hv
    · split at hu
      · exact S.apart i j v u b hij hv hu
      · cases hu
    · cases hv
  · rw [List.getElem?_take] at hv
    split at hv
    · exact S.low i v b hv
    · cases hv
  · exact hL.le.trans (L.weaken (fun i hi => by simp at *; omega))
theorem T_cut {c : Code} (n : Nat) (hb : b ≤ n) (hn : n ≤ s.h.length) (ht : V.allL (fun i => decide (i < n)) s.t = true) (hh : ∀ o ∈ s.h.take n, o.all (fun i => decide (i < n)) = true)
    (h : T P b ro c ⟨s.t, s.h.take n⟩ K) : T P b ro c s K := fun C E0 m a w hb0 L S => by
  obtain ⟨S', hL, _⟩ := S.cut n hn ht hh
  exact h C E0 _ a w hb0 (hL E0 (by omega) L) S'
end rules
end Go.Ab
namespace Go.Ab
open Go Go.RowKit
set_option linter.unusedVariables false

/-! ### results -/
def res1 (P : Program) (s : St) : ResultVar → Option V
  | .tmp t => s.t[t]?
  | .cell p T => match s.t[p]? with
    | some x => loadV P s.h T x
    | none => none
def resL (P : Program) (s : St) : List ResultVar → Option (List V)
  | [] => some []
  | x :: xs => match res1 P s x, resL P s xs with
    | some v, some vs => some (v :: vs)
    | _, _ => none
def resV (P : Program) (fn : Func) (s : St) : Option V :=
  match resL P s fn.results.toList with
  | some [x] => some x
  | some xs => some (.tup xs)
  | none => none
theorem slot_sound {C : Ctx} {s : St} {m : List Value} {a : Act} {w : World} (S : Sim C s m a w) {t : Nat} {v : V} (h : s.t[t]? = some v) : Rel (env C s.h m w) v (a.tmps.getD t undef) := ev_sound (x := .tmp t) S h
theorem loadV_ptr {P : Program} {C : Ctx} {s : St} {m : List Value} {a : Act} {w : World} (S : Sim C s m a w) {T : TypeId} {x y : V} {u : Value} (hx : Rel (env C s.h m w) x u) (hl : loadV P s.h T x = some y) : ∃ ad, u = .pointer (some ad) := by
  unfold loadV at hl
  split at hl
  · rename_i cs hk hc
    obtain ⟨ad, h, _⟩ := cellsAt_sound S hx hc
    exact ⟨ad, h⟩
  · rename_i c cs hk hc
    obtain ⟨ad, h, _⟩ := cellsAt_sound S hx hc
    exact ⟨ad, h⟩
  · cases hl
def readRes (tmps : Array Value) : ResultVar → Sem Value
  | .tmp t => pure (tmps.getD t undef)
  | .cell p T => do loadVar T (← asAddr (tmps.getD p undef))
theorem results_eq (fn : Func) (tmps : Array Value) : results fn tmps = (do
    let vs ← fn.results.mapM (readRes tmps)
    pure (if h : vs.size = 1 then vs[0] else .tuple vs)) := by
  unfold results
  congr 1
theorem resL_sound {P : Program} {C : Ctx} {s : St} {m : List Value} {a : Act} {w : World} (S : Sim C s m a w) : ∀ {rs : List ResultVar} {vs : List V}, resL P s rs = some vs →
    ∃ us, (rs.mapM (readRes a.tmps)).run P w = .ok us w ∧ RelL (env C s.h m w) vs us
  | [], vs, h => by simp only [resL, Option.some.injEq] at h; subst h; exact ⟨[], by simp, by simp [RelL]⟩
  | x :: xs, vs, h => by
    simp only [resL] at h
    split at h
    · rename_i v vs' h1 h2
      simp only [Option.some.injEq] at h; subst h
      obtain ⟨us, hu, hR⟩ := resL_sound S h2
      cases x with
      | tmp t =>
        simp only [res1] at h1
        exact ⟨a.tmps.getD t undef :: us, by simp only [List.mapM_cons, readRes, Sem.run_bind, Sem.run_pure, Result.andThen_ok, hu], by simp only [RelL]; exact ⟨_, _, rfl, slot_sound S h1, hR⟩⟩
      | cell p T =>
        simp only [res1] at h1
        split at h1
        · rename_i x hx
          obtain ⟨u, hr, hy⟩ := loadV_sound S (slot_sound S hx) h1
          obtain ⟨ad, he⟩ := loadV_ptr S (slot_sound S hx) h1
          rw [he] at hr
          simp only [Instr.loadAt, Instr.sureAddr, Sem.run_bind, Sem.run_pure, Result.andThen_ok] at hr
          refine ⟨u :: us, ?_, by simp only [RelL]; exact ⟨_, _, rfl, hy, hR⟩⟩
          simp only [List.mapM_cons, readRes, Sem.run_bind, Sem.run_pure, Result.andThen_ok, hu, he, asAddr, hr]
        · cases h1
    · cases h
theorem resV_sound {P : Program} {fn : Func} {C : Ctx} {s : St} {m : List Value} {a : Act} {w : World} (S : Sim C s m a w) {r : V} (h : resV P fn s = some r) : ∃ v, (results fn a.tmps).run P w = .ok v w ∧ Rel (env C s.h m w) r v := by
  unfold resV at h
  have key : ∀ vs, resL P s fn.results.toList = some vs → ∃ us : List Value, (results fn a.tmps).run P w = .ok (if h : us.toArray.size = 1 then us.toArray[0] else .tuple us.toArray) w ∧ RelL (env C s.h m w) vs us := fun vs hv => by
    obtain ⟨us, hu, hR⟩ := resL_sound S hv
    refine ⟨us, ?_, hR⟩
    rw [results_eq]
    simp [Array.mapM_eq_mapM_toList, hu]
  split at h
  · rename_i x hx
    simp only [Option.some.injEq] at h; subst h
    obtain ⟨us, hrun, hR⟩ := key _ hx
    simp only [RelL] at hR
    obtain ⟨u, us', rfl, hr, rfl⟩ := hR
    exact ⟨u, by simpa using hrun, hr⟩
  · rename_i xs hne hx
    simp only [Option.some.injEq] at h; subst h
    obtain ⟨us, hrun, hR⟩ := key _ hx
    have hl := hR.length
    refine ⟨.tuple us.toArray, ?_, ?_⟩
    · rw [hrun, dif_neg]
      intro e
      simp at e
      obtain ⟨y, rfl⟩ := List.length_eq_one_iff.1 (hl.trans e)
      exact hne y rfl
    · simp only [Rel]; exact ⟨_, rfl, hR⟩
  · cases h
/-! ### values that are data alone -/
/-- Rows of one's own become slices that are only read; whether that is let by hangs on whether they are frozen. -/
def conv (ok : Bool → Bool) (h : List AObj) : V → Option V
  | .arr i n => match h[i]? with
    | some (.arr _ sz rows fr) => if n = rows.length ∧ ok fr = true ∧ V.allR (fun _ => false) rows = true then some (.sl sz rows) else none
    | _ => none
  | x => if x.all (fun _ => false) = true then some x else none
def convL (ok : Bool → Bool) (h : List AObj) : List V → Option (List V)
  | [] => some []
  | c :: cs => match conv ok h c, convL ok h cs with
    | some x, some xs => some (x :: xs)
    | _, _ => none
/-- The same, one level down. -/
def convD (ok : Bool → Bool) (h : List AObj) : V → Option V
  | .agg cs => match convL ok h cs with
    | some xs => some (.agg xs)
    | none => none
  | .tup cs => match convL ok h cs with
    | some xs => some (.tup xs)
    | none => none
  | x => conv ok h x
def convDL (ok : Bool → Bool) (h : List AObj) : List V → Option (List V)
  | [] => some []
  | c :: cs => match convD ok h c, convDL ok h cs with
    | some x, some xs => some (x :: xs)
    | _, _ => none
/-- Struct within tuples: two levels. -/
def convT (ok : Bool → Bool) (h : List AObj) : V → Option V
  | .tup cs => match convDL ok h cs with
    | some xs => some (.tup xs)
    | none => none
  | x => convD ok h x
theorem allR_flatten {p : Nat → Bool} : ∀ (rows : List (List V)), V.allR p rows = V.allL p rows.flatten
  | [] => by simp only [V.allR, List.flatten_nil, V.allL]
  | r :: rs => by
    have happ : ∀ (xs ys : List V), V.allL p (xs ++ ys) = (V.allL p xs && V.allL p ys) := fun xs => by
      induction xs with
      | nil => intro ys; simp [V.allL]
      | cons c cs ih => intro ys; simp [V.allL, ih, Bool.and_assoc]
    simp only [V.allR, List.flatten_cons, happ, allR_flatten rs]
structure Less (E : Env) (bad : Nat → Prop) : Prop where
  nb : ∀ b, bad b → E.bad b
theorem data_le {E : Env} {bad : Nat → Prop} (hb : ∀ b, b < E.w.heap.size → bad b → E.bad b) : Env.Le (fun _ => false) E ⟨bad, [], [], E.w⟩ :=
  ⟨hb, fun _ _ _ => rfl, Nat.le_refl _, fun _ hi => (by cases hi), fun _ hi => (by cases hi), fun _ hi => (by cases hi)⟩
theorem RelRows.chunked {E : Env} {ad : Addr} {sz : Nat} : ∀ {rows : List (List V)} {us : List Value} {k : Nat}, (∀ r ∈ rows, r.length = sz) → RelL E rows.flatten us → (∀ j v, us[j]? = some v → E.w.cell? (ad.add (k + j)) = some v) → RelRows E ad sz k rows
  | [], us, k, _, _, _ => by simp only [RelRows]
  | r :: rs, us, k, hs, h, hc => by
    simp only [List.flatten_cons] at h
    obtain ⟨a, b, rfl, ha, hb⟩ := RelL.split h
    have hl := ha.length
    have hr := hs r (by simp)
    simp only [RelRows]
    refine ⟨hr, RelCells.of ha (fun j v hj => hc j v ?_), RelRows.chunked (fun x hx => hs x (by simp [hx])) hb (fun j v hj => ?_)⟩
    · rw [List.getElem?_append_left (List.getElem?_eq_some_iff.1 hj).1]; exact hj
    · have := hc (sz + j) v (by rw [List.getElem?_append_right (by omega)]; rw [show sz + j - a.length = j by omega]; exact hj)
      rwa [← Nat.add_assoc] at this
theorem conv_sound {C : Ctx} {s : St} {m : List Value} {a : Act} {w : World} (S : Sim C s m a w) {ok : Bool → Bool} {bad : Nat → Prop} (hbad : ∀ b, b < w.heap.size → bad b → (env C s.h m w).bad b)
    (hfz : ∀ (i : Nat) T sz rows fr v b, s.h[i]? = some (.arr T sz rows fr) → ok fr = true → m[i]? = some v → blk v = some b → ¬ bad b) {x d : V} {u : Value} (hx : Rel (env C s.h m w) x u) (h : conv ok s.h x = some d) :
    Rel ⟨bad, [], [], w⟩ d u ∧ d.all (fun _ => false) = true := by
  have hle := data_le (E := env C s.h m w) (bad := bad) hbad
  unfold conv at h
  split at h
  · rename_i i n
    split at h
    · rename_i T sz rows fr ho
      split at h
      · rename_i hc
        simp only [Option.some.injEq] at h; subst h
        obtain ⟨_, _, _, _, us, ho', _, hm, hown, hR, hsz⟩ := cur_arr S hx (by simp [cur, ho, hc.1])
        rw [ho] at ho'; cases ho'
        obtain ⟨A, c, rfl, hnc, hlim, hA, hpos⟩ := owns_shape hown
        have hR' : RelL ⟨bad, [], [], w⟩ rows.flatten us := RelL.mono hle _ _ (by rw [← allR_flatten]; exact hc.2.2) hR
        refine ⟨?_, by simpa only [V.all] using hc.2.2⟩
        simp only [Rel]
        refine ⟨A, c, by rw [← hc.1], ⟨by omega, by omega⟩, ?_⟩
        rcases rows with _ | ⟨r, rs⟩
        · exact .inl rfl
        · obtain ⟨g, rfl⟩ := hpos (by simp)
          refine .inr ⟨_, rfl, hfz i _ _ _ _ _ g ho hc.2.1 hm rfl, own_lt' hown rfl, RelRows.chunked hsz hR' (fun j v hj => ?_)⟩
          have := hown.cells (g := g) rfl j v hj
          simpa using this
      · cases h
    · cases h
  · split at h
    · rename_i ha
      simp only [Option.some.injEq] at h; subst h
      exact ⟨Rel.mono hle _ _ ha hx, ha⟩
    · cases h
theorem convL_sound {C : Ctx} {s : St} {m : List Value} {a : Act} {w : World} (S : Sim C s m a w) {ok : Bool → Bool} {bad : Nat → Prop} (hbad : ∀ b, b < w.heap.size → bad b → (env C s.h m w).bad b)
    (hfz : ∀ (i : Nat) T sz rows fr v b, s.h[i]? = some (.arr T sz rows fr) → ok fr = true → m[i]? = some v → blk v = some b → ¬ bad b) : ∀ {xs ds : List V} {us : List Value}, RelL (env C s.h m w) xs us → convL ok s.h xs = some ds →
    RelL ⟨bad, [], [], w⟩ ds us ∧ V.allL (fun _ => false) ds = true
  | [], ds, us, hx, h => by
    simp only [convL, Option.some.injEq] at h; subst h
    simp only [RelL] at hx; subst hx
    exact ⟨by simp only [RelL], by simp only [V.allL]⟩
  | c :: cs, ds, us, hx, h => by
    simp only [convL] at h
    split at h
    · rename_i x xs h1 h2
      simp only [Option.some.injEq] at h; subst h
      simp only [RelL] at hx
      obtain ⟨u, us', rfl, hu, hus⟩ := hx
      obtain ⟨h3, h4⟩ := conv_sound S hbad hfz hu h1
      obtain ⟨h5, h6⟩ := convL_sound S hbad hfz hus h2
      exact ⟨by simp only [RelL]; exact ⟨u, us', rfl, h3, h5⟩, by simp only [V.allL, h4, h6, Bool.and_self]⟩
    · cases h
theorem convD_sound {C : Ctx} {s : St} {m : List Value} {a : Act} {w : World} (S : Sim C s m a w) {ok : Bool → Bool} {bad : Nat → Prop} (hbad : ∀ b, b < w.heap.size → bad b → (env C s.h m w).bad b)
    (hfz : ∀ (i : Nat) T sz rows fr v b, s.h[i]? = some (.arr T sz rows fr) → ok fr = true → m[i]? = some v → blk v = some b → ¬ bad b) {x d : V} {u : Value} (hx : Rel (env C s.h m w) x u) (h : convD ok s.h x = some d) :
    Rel ⟨bad, [], [], w⟩ d u ∧ d.all (fun _ => false) = true := by
  unfold convD at h
  split at h
  · split at h
    · rename_i xs h1
      simp only [Option.some.injEq] at h; subst h
      simp only [Rel] at hx ⊢
      obtain ⟨vs, rfl, hR⟩ := hx
      obtain ⟨h3, h4⟩ := convL_sound S hbad hfz hR h1
      exact ⟨⟨vs, rfl, h3⟩, by simpa only [V.all] using h4⟩
    · cases h
  · split at h
    · rename_i xs h1
      simp only [Option.some.injEq] at h; subst h
      simp only [Rel] at hx ⊢
      obtain ⟨vs, rfl, hR⟩ := hx
      obtain ⟨h3, h4⟩ := convL_sound S hbad hfz hR h1
      exact ⟨⟨vs, rfl, h3⟩, by simpa only [V.all] using h4⟩
    · cases h
  · exact conv_sound S hbad hfz hx h
theorem convDL_sound {C : Ctx} {s : St} {m : List Value} {a : Act} {w : World} (S : Sim C s m a w) {ok : Bool → Bool} {bad : Nat → Prop} (hbad : ∀ b, b < w.heap.size → bad b → (env C s.h m w).bad b)
    (hfz : ∀ (i : Nat) T sz rows fr v b, s.h[i]? = some (.arr T sz rows fr) → ok fr = true → m[i]? = some v → blk v = some b → ¬ bad b) : ∀ {xs ds : List V} {us : List Value}, RelL (env C s.h m w) xs us → convDL ok s.h xs = some ds →
    RelL ⟨bad, [], [], w⟩ ds us ∧ V.allL (fun _ => false) ds = true
  | [], ds, us, hx, h => by
    simp only [convDL, Option.some.injEq] at h; subst h
    simp only [RelL] at hx; subst hx
    exact ⟨by simp only [RelL], by simp only [V.allL]⟩
  | c :: cs, ds, us, hx, h => by
    simp only [convDL] at h
    split at h
    · rename_i x xs h1 h2
      simp only [Option.some.injEq] at h; subst h
      simp only [RelL] at hx
      obtain ⟨u, us', rfl, hu, hus⟩ := hx
      obtain ⟨h3, h4⟩ := convD_sound S hbad hfz hu h1
      obtain ⟨h5, h6⟩ := convDL_sound S hbad hfz hus h2
      exact ⟨by simp only [RelL]; exact ⟨u, us', rfl, h3, h5⟩, by simp only [V.allL, h4, h6, Bool.and_self]⟩
    · cases h
theorem convT_sound {C : Ctx} {s : St} {m : List Value} {a : Act} {w : World} (S : Sim C s m a w) {ok : Bool → Bool} {bad : Nat → Prop} (hbad : ∀ b, b < w.heap.size → bad b → (env C s.h m w).bad b)
    (hfz : ∀ (i : Nat) T sz rows fr v b, s.h[i]? = some (.arr T sz rows fr) → ok fr = true → m[i]? = some v → blk v = some b → ¬ bad b) {x d : V} {u : Value} (hx : Rel (env C s.h m w) x u) (h : convT ok s.h x = some d) :
    Rel ⟨bad, [], [], w⟩ d u ∧ d.all (fun _ => false) = true := by
  unfold convT at h
  split at h
  · split at h
    · rename_i xs h1
      simp only [Option.some.injEq] at h; subst h
      simp only [Rel] at hx ⊢
      obtain ⟨vs, rfl, hR⟩ := hx
      obtain ⟨h3, h4⟩ := convDL_sound S hbad hfz hR h1
      exact ⟨⟨vs, rfl, h3⟩, by simpa only [V.all] using h4⟩
    · cases h
  · exact convD_sound S hbad hfz hx h
end Go.Ab
namespace Go.Ab
open Go Go.RowKit
set_option linter.unusedVariables false

theorem RelL.undefs {E : Env} : ∀ (n : Nat), RelL E (List.replicate n .undef) (List.replicate n undef)
  | 0 => by simp only [List.replicate_zero, RelL]
  | n + 1 => by simp only [List.replicate_succ, RelL]; exact ⟨_, _, rfl, by simp only [Rel], RelL.undefs n⟩
theorem grownBy_put (w : World) (b : Nat) (o : Obj) : w.grownBy (w.putObj b o) (some b) :=
  ⟨rfl, rfl, rfl, by simp, fun k hk hne => World.putObj_heap_other (fun e => hne (by rw [e]))⟩
theorem RelObj.kind {C : Ctx} {E : Env} {v : Value} {o : AObj} (h : RelObj C E v o) (ho : o ≠ .dead) {b : Nat} (hb : blk v = some b) : ∃ ob, E.w.heap[b]? = some ob ∧ ∀ x, ob ≠ .deferred x := by
  cases o with
  | box T cs => obtain ⟨b', vs, rfl, h1, h2, h3⟩ := h; simp only [blk, Option.some.injEq] at hb; subst hb; exact ⟨_, h2, by simp⟩
  | arr T sz rows fr =>
    obtain ⟨us, ⟨h0, h1⟩, h2, h3⟩ := h
    rcases h1 with ⟨rfl, _⟩ | ⟨g, cap, cur, rfl, hg, hh, hr⟩
    · simp [blk] at hb
    · simp only [blk, Option.some.injEq] at hb; subst hb; exact ⟨_, hh, by simp⟩
  | map es => obtain ⟨b', clock, es', rfl, h1, h2, h3, h4⟩ := h; simp only [blk, Option.some.injEq] at hb; subst hb; exact ⟨_, h2, by simp⟩
  | que T sz rows =>
    obtain ⟨us, j, hj, ⟨h0, h1⟩, h2, h3⟩ := h
    rcases h1 with ⟨rfl, _⟩ | ⟨g, cap, cur, rfl, hg, hh, hr⟩
    · simp [blk] at hb
    · simp only [blk, Option.some.injEq] at hb; subst hb; exact ⟨_, hh, by simp⟩
  | loop st pe t ps asg bd => obtain ⟨b', fn, us, df, rfl, h1, h2, h3⟩ := h; simp only [blk, Option.some.injEq] at hb; subst hb; exact ⟨_, h2, by simp⟩
  | dead => exact absurd rfl ho
/-- A mark's block is shut. -/
theorem Sim.shut {C : Ctx} {s : St} {m : List Value} {tm : Array Value} {ms : List Deferred} {w : World} {E0 : Env} {d : Deferred} (S : Sim C s m ⟨tm, d :: (ms ++ C.base)⟩ w) (h0 : E0.w.heap.size ≤ C.at0) (L : LeN E0 (env C s.h m w)) (hm : ∀ x ∈ d :: ms, Mark C (env C s.h m w) x) (hp : (d :: ms).Pairwise (fun x y => x.target ≠ y.target)) :
    ∃ b w', d.target = .collected b ∧ w.heap[b]? = some (.deferred (some [])) ∧ w' = w.putObj b (.deferred none) ∧ Sim C s m ⟨tm, ms ++ C.base⟩ w' ∧ LeN E0 (env C s.h m w') ∧ (∀ x ∈ ms, Mark C (env C s.h m w') x) := by
  obtain ⟨⟨ha1, ha2⟩, _⟩ := S.defers
  obtain ⟨b, rfl, h1, h2, h3, h4⟩ := hm d (by simp)
  have h4' : w.heap[b]? = some (.deferred (some [])) := h4
  have LC : Env.LeC (fun _ => true) (env C s.h m w) (env C s.h m (w.putObj b (.deferred none))) := by
    refine ⟨fun b _ h => h, fun ad u hlt hn hc => ?_, by simp [env], fun i _ v h _ => h, fun i _ h => ⟨h, fun T sz rows fr ho => ⟨T, rows, fr, ho, Nat.le_refl _, fun _ => rfl⟩⟩, fun i _ T sz rows ho => ⟨rows, ho, Nat.le_refl _, fun _ => rfl⟩⟩
    rw [← hc]
    refine cell_same (World.putObj_heap_other (fun e => ?_))
    simp only [env] at hc
    unfold World.cell? at hc
    rw [e, h4'] at hc
    simp at hc
  rw [List.pairwise_cons] at hp
  have hmarks : ∀ x ∈ ms, Mark C (env C s.h m (w.putObj b (.deferred none))) x := fun d' hd' => by
    obtain ⟨b', he, k1, k2, k3, k4⟩ := hm d' (by simp [hd'])
    have hne : b' ≠ b := fun e => hp.1 d' hd' (by rw [he, e])
    exact ⟨b', he, k1, by simpa [env] using k2, k3, (World.putObj_heap_other hne).trans k4⟩
  refine ⟨b, _, rfl, h4', rfl, ⟨?_, S.out, S.len, RelL.monoC LC _ _ (V.allL_true _) S.slots, ⟨⟨ha1, by simpa [env] using ha2⟩, ms, rfl, hmarks, hp.2⟩, fun i o v ho hv => ?_, S.apart, fun i v b' hv hb => ?_⟩, ⟨L.len, ?_⟩, hmarks⟩
  · exact S.below.grown (grownBy_put w b (.deferred none)) S.below.size (fun k hk => by cases hk; omega)
  · by_cases hd : o = .dead
    · subst hd; trivial
    · have hr := S.objs i o v ho hv
      refine RelObj.monoC LC (o := o) (by cases o <;> simp [AObj.all, V.allL_true]) (fun b' hb' => World.putObj_heap_other (fun e => ?_)) hr
      obtain ⟨ob, k1, k2⟩ := hr.kind hd hb'
      subst e
      rw [h4] at k1
      cases k1
      exact k2 _ rfl
  · have := S.low i v b' hv hb
    exact ⟨this.1, by simpa using this.2⟩
  · refine ⟨L.le.nb, fun b' hb' hn => ?_, by simpa [env] using L.le.sz, L.le.mp, L.le.ma, L.le.mq⟩
    exact (World.putObj_heap_other (fun e => by omega)).trans (L.le.wk b' hb' hn)
theorem leaves_marks' {P : Program} {fn : Func} {C : Ctx} {s : St} {m : List Value} {tm : Array Value} {E0 : Env} (h0 : E0.w.heap.size ≤ C.at0) {R : Ending → World → Prop} {u : FrameMode} (hu : u ≠ .run)
    (k : ∀ w', Sim C s m ⟨tm, C.base⟩ w' → LeN E0 (env C s.h m w') → LeavesInM Fence.wide 0 P fn tm R C.base u w') : ∀ (ms : List Deferred) {w : World}, (∀ x ∈ ms, Mark C (env C s.h m w) x) → ms.Pairwise (fun x y => x.target ≠ y.target) → Sim C s m ⟨tm, ms ++ C.base⟩ w → LeN E0 (env C s.h m w) → LeavesInM Fence.wide 0 P fn tm R (ms ++ C.base) u w
  | [], w, _, _, S, L => k w S L
  | d :: ds, w, hm, hp, S, L => by
    obtain ⟨b, w', h1, h2, rfl, S', L', hm'⟩ := Sim.shut S h0 L hm hp
    rw [List.pairwise_cons] at hp
    show LeavesInM Fence.wide 0 P fn tm R (d :: (ds ++ C.base)) u w
    unfold LeavesInM
    exact ⟨hu, .inl ⟨b, _, h1, run_takeDeferred h2, leaves_marks' h0 hu k ds hm' hp.2 S' L'⟩⟩
theorem leaves_mk {P : Program} {fn : Func} {C : Ctx} {s : St} {m : List Value} {a : Act} {E0 : Env} (h0 : E0.w.heap.size ≤ C.at0) {R : Ending → World → Prop} {u : FrameMode} (hu : u ≠ .run)
    (k : ∀ w', Sim C s m ⟨a.tmps, C.base⟩ w' → LeN E0 (env C s.h m w') → LeavesInM Fence.wide 0 P fn a.tmps R C.base u w') {w : World} (S : Sim C s m a w) (L : LeN E0 (env C s.h m w)) : LeavesInM Fence.wide 0 P fn a.tmps R a.defers u w := by
  obtain ⟨_, ms, h1, h2, h3⟩ := S.defers
  obtain ⟨tm, ds⟩ := a
  simp only at h1
  subst h1
  exact leaves_marks' h0 hu k ms h2 h3 S L
theorem leaves_marks {P : Program} {fn : Func} {C : Ctx} {s : St} {m : List Value} {a : Act} {E0 : Env} (hb : C.base = []) (h0 : E0.w.heap.size ≤ C.at0) {R : Ending → World → Prop}
    (k : ∀ w', Sim C s m ⟨a.tmps, []⟩ w' → LeN E0 (env C s.h m w') → ∃ v, (results fn a.tmps).run P w' = .ok v w' ∧ R (.returned v) w') {w : World} (S : Sim C s m a w) (L : LeN E0 (env C s.h m w)) : LeavesInM Fence.wide 0 P fn a.tmps R a.defers .returning w := by
  refine leaves_mk h0 (by simp) (fun w' S' L' => ?_) S L
  rw [hb] at S' ⊢
  unfold LeavesInM
  exact k w' S' L'
/-- The slots when a function is entered. -/
def enter (fn : Func) (args : List V) : List V := args ++ List.replicate (fn.ntmps - args.length) .undef
/-- A call, told by its body's walk: the heap stays the caller's, but for what is told. -/
theorem RetS_intro {P : Program} {f : FuncId} {fn : Func} {c : Code} {args : List V} {h h' : List AObj} {r : V} (hf : P.funcs[f]? = some fn) (hb : fn.body = some c)
    (hT : T P h.length none c ⟨enter fn args, h⟩ (fun x s => (match x with | .normal | .ret => True | _ => False) ∧ resV P fn s = some r ∧ ∃ n, h.length ≤ n ∧ n ≤ s.h.length ∧ s.h.take n = h' ∧ r.all (fun i => decide (i < n)) = true ∧ ∀ o ∈ h', o.all (fun i => decide (i < n)) = true)) :
    RetS P f args h r h' := by
  intro C t m a w cargs S hR
  refine (callsIn_wide (n := 0)).1 ?_
  refine callsIn_of_wp_marks hf hb trivial ?_
  have hlen := hR.length
  have S0 : Sim { C with at0 := w.heap.size, base := [] } ⟨enter fn args, h⟩ m { tmps := cargs ++ Array.replicate (fn.ntmps - cargs.size) undef, defers := [] } w := by
    refine ⟨S.below, S.out, S.len, ?_, Marks.nil S.below.size (Nat.le_refl _), S.objs, S.apart, S.low⟩
    simp only [enter, Array.toList_append, Array.toList_replicate]
    have : args.length = cargs.size := by simpa using hlen
    rw [this]
    exact hR.append (RelL.undefs _)
  have hw := hT { C with at0 := w.heap.size, base := [] } (env C h m w) m _ w rfl (LeN.refl _) S0
  refine wpIn_mono hw ?_
  rintro e a' w' ⟨s', m', ⟨hx, hres, n, hn1, hn2, hn3, hr, ho⟩, S', L'⟩
  have post : LeavesInM Fence.wide 0 P fn a'.tmps (fun e w' => ∃ v_1 m', e = .returned v_1 ∧ Sim C ⟨t, h'⟩ m' a w' ∧ Rel (env C h' m' w') r v_1 ∧ LeN (env C h m w) (env C h' m' w')) a'.defers .returning w' := by
    refine leaves_marks (C := { C with at0 := w.heap.size, base := [] }) (E0 := env C h m w) (s := s') (m := m') rfl (Nat.le_refl _) (fun w' S' L' => ?_) S' L'
    obtain ⟨v, hv, hrv⟩ := resV_sound S' hres
    -- the caller's slots live on
    have hslots : RelL (env C s'.h m' w') t a.tmps.toList := RelL.leN L' (by simp only [env]; exact Nat.le_of_eq S.len) S.slots
    have hids : V.allL (fun i => decide (i < n)) t = true := by
      have h1 := RelL.ids (N := h.length) (by simp only [env]; exact Nat.le_of_eq S.len) (by simp only [env]; exact Nat.le_refl _) t S.slots
      exact V.allL_imp (fun i hi => by simp at *; omega) t h1
    have S1 : Sim C ⟨t, s'.h⟩ m' a w' := ⟨S'.below, S'.out, S'.len, hslots, S.defers.le L'.le, S'.objs, S'.apart, S'.low⟩
    obtain ⟨S2, hL2, hL3⟩ := S1.cut n hn2 hids (by rw [hn3]; exact ho)
    have hL := hL2 (env C h m w) hn1 L'
    simp only [hn3] at S2 hL hL3
    exact ⟨v, hv, v, m'.take n, rfl, S2, Rel.mono hL3 r v hr hrv, hL⟩
  cases e with
  | normal => exact post
  | ret => exact post
  | _ => exact hx.elim
/-! ### calls that are handed data alone -/
/-- Calling f with data hands back data; all that was there stays as it was. -/
def Ret (P : Program) (f : FuncId) (args : List V) (r : V) : Prop :=
  ∀ (bad : Nat → Prop) (w : World) (cargs : Array Value), (∀ b, bad b → b < w.heap.size) → RelL ⟨bad, [], [], w⟩ args cargs.toList →
    Calls P f cargs w fun e w' => ∃ v, e = .returned v ∧ Rel ⟨bad, [], [], w'⟩ r v ∧ Below w.heap.size w w'
theorem Ret_intro {P : Program} {f : FuncId} {fn : Func} {c : Code} {args : List V} {r : V} (hf : P.funcs[f]? = some fn) (hb : fn.body = some c)
    (hT : T P 0 none c ⟨enter fn args, []⟩ (fun x s => (match x with | .normal | .ret => True | _ => False) ∧ ∃ r0, resV P fn s = some r0 ∧ convT (fun _ => true) s.h r0 = some r)) : Ret P f args r := by
  intro bad w cargs hbad hR
  refine (callsIn_wide (n := 0)).1 ?_
  refine callsIn_of_wp_marks hf hb trivial ?_
  have hlen := hR.length
  have hle : Env.Le (fun _ => true) ⟨bad, [], [], w⟩ (env ⟨bad, w, w.heap.size, []⟩ [] [] w) :=
    ⟨fun b _ h => by rcases h with h | ⟨i, o, v, h1, _⟩; exact h; simp at h1, fun _ _ _ => rfl, Nat.le_refl _, fun i _ v h => by simp at h, fun i _ h => by simp at h, fun i _ T sz rows h => by simp at h⟩
  have S0 : Sim ⟨bad, w, w.heap.size, []⟩ ⟨enter fn args, []⟩ [] { tmps := cargs ++ Array.replicate (fn.ntmps - cargs.size) undef, defers := [] } w := by
    refine ⟨Below.refl _ _, hbad, rfl, ?_, Marks.nil (Nat.le_refl _) (Nat.le_refl _), fun i o v h => by simp at h, fun i j v u b _ h => by simp at h, fun i v b h => by simp at h⟩
    simp only [enter, Array.toList_append, Array.toList_replicate]
    have : args.length = cargs.size := by simpa using hlen
    rw [this]
    exact (hR.le hle).append (RelL.undefs _)
  have hw := hT ⟨bad, w, w.heap.size, []⟩ (env ⟨bad, w, w.heap.size, []⟩ [] [] w) [] _ w rfl (LeN.refl _) S0
  refine wpIn_mono hw ?_
  rintro e a' w' ⟨s', m', ⟨hx, r0, hres, hconv⟩, S', L'⟩
  have post : LeavesInM Fence.wide 0 P fn a'.tmps (fun e w' => ∃ v_1, e = .returned v_1 ∧ Rel ⟨bad, [], [], w'⟩ r v_1 ∧ Below w.heap.size w w') a'.defers .returning w' := by
    refine leaves_marks (C := ⟨bad, w, w.heap.size, []⟩) (E0 := env ⟨bad, w, w.heap.size, []⟩ [] [] w) (s := s') (m := m') rfl (Nat.le_refl _) (fun w' S' L' => ?_) S' L'
    obtain ⟨v, hv, hrv⟩ := resV_sound S' hres
    have hd := convT_sound S' (ok := fun _ => true) (bad := bad) (fun b _ h => .inl h) (fun i T sz rows fr v b ho _ hm hb' hbd => by
      have := (S'.low i v b hm hb').1
      have h2 := hbad b hbd
      simp only at this
      omega) hrv hconv
    exact ⟨v, hv, v, rfl, hd.1, S'.below⟩
  cases e with
  | normal => exact post
  | ret => exact post
  | _ => exact hx.elim
/-- A row of one's own is written no more. -/
def frz1 (h : List AObj) : V → List AObj
  | .arr i _ => match h[i]? with
    | some (.arr T sz rows false) => h.set i (.arr T sz rows true)
    | _ => h
  | _ => h
def frzL (h : List AObj) : List V → List AObj
  | [] => h
  | c :: cs => frzL (frz1 h c) cs
def frzD (h : List AObj) : List V → List AObj
  | [] => h
  | .agg cs :: xs => frzD (frzL h cs) xs
  | x :: xs => frzD (frz1 h x) xs
theorem grownBy_refl (w : World) (row : Option Nat) : w.grownBy w row := ⟨rfl, rfl, rfl, Nat.le_refl _, fun _ _ _ => rfl⟩
theorem frz1_sound {C : Ctx} {s : St} {m : List Value} {a : Act} {w : World} (S : Sim C s m a w) (x : V) : Sim C ⟨s.t, frz1 s.h x⟩ m a w ∧ Up (env C s.h m w) (env C (frz1 s.h x) m w) := by
  unfold frz1
  split
  · rename_i i n
    split
    · rename_i T sz rows ho
      have hlt : i < m.length := by rw [S.len]; exact (List.getElem?_eq_some_iff.1 ho).1
      have hm : m[i]? = some m[i] := List.getElem?_eq_getElem hlt
      obtain ⟨h1, h2⟩ := S.turn (o' := .arr T sz rows true) (v' := m[i]) ho hm rfl (.inr (.inl ⟨T, sz, rows, rows, false, true, rfl, rfl, Nat.le_refl _, fun _ => rfl⟩)) (grownBy_refl w _) (.inl rfl) (fun L => by
        obtain ⟨us, h1, h2, h3⟩ := S.objs i _ _ ho hm
        exact ⟨us, h1, h2.le L, h3⟩)
      rw [List.set_getElem_self] at h1 h2
      exact ⟨h1, h2⟩
    · exact ⟨S, Up.refl _⟩
  · exact ⟨S, Up.refl _⟩
theorem Up.trans {A B D : Env} (h : Up A B) (k : Up B D) : Up A D := ⟨Nat.le_trans h.1 k.1, h.2.trans k.2⟩
theorem frzL_sound {C : Ctx} {t : List V} {m : List Value} {a : Act} {w : World} : ∀ (xs : List V) {h : List AObj} (S : Sim C ⟨t, h⟩ m a w), Sim C ⟨t, frzL h xs⟩ m a w ∧ Up (env C h m w) (env C (frzL h xs) m w)
  | [], h, S => ⟨S, Up.refl _⟩
  | c :: cs, h, S => by
    obtain ⟨S1, U1⟩ := frz1_sound S c
    obtain ⟨S2, U2⟩ := frzL_sound cs S1
    exact ⟨S2, U1.trans U2⟩
theorem frzD_sound {C : Ctx} {t : List V} {m : List Value} {a : Act} {w : World} : ∀ (xs : List V) {h : List AObj} (S : Sim C ⟨t, h⟩ m a w), Sim C ⟨t, frzD h xs⟩ m a w ∧ Up (env C h m w) (env C (frzD h xs) m w)
  | [], h, S => ⟨S, Up.refl _⟩
  | x :: xs, h, S => by
    have key : ∀ h1, Sim C ⟨t, h1⟩ m a w → Up (env C h m w) (env C h1 m w) → frzD h (x :: xs) = frzD h1 xs → Sim C ⟨t, frzD h (x :: xs)⟩ m a w ∧ Up (env C h m w) (env C (frzD h (x :: xs)) m w) := fun h1 S1 U1 e => by
      obtain ⟨S2, U2⟩ := frzD_sound xs S1
      rw [e]
      exact ⟨S2, U1.trans U2⟩
    by_cases hx : ∃ cs, x = .agg cs
    · obtain ⟨cs, rfl⟩ := hx
      obtain ⟨S1, U1⟩ := frzL_sound cs S
      exact key _ S1 U1 rfl
    · obtain ⟨S1, U1⟩ := frz1_sound S x
      exact key _ S1 U1 (by cases x <;> first | rfl | exact absurd ⟨_, rfl⟩ hx)
theorem Ret.shared {P : Program} {f : FuncId} {dargs args : List V} {r : V} {h h1 : List AObj} (hr : Ret P f dargs r) (hf : frzD h args = h1) (hc : convDL (fun b => b) h1 args = some dargs) : RetS P f args h r h1 := by
  intro C t m a w cargs S hR
  obtain ⟨S1, U1⟩ := frzD_sound args S
  rw [hf] at S1 U1
  have hR1 := hR.le U1.2
  have hbad : ∀ b, (env C h1 m w).bad b → b < w.heap.size := fun b hb => by
    rcases hb with hb | ⟨i, o, v, _, _, h3, h4⟩
    · exact Nat.lt_of_lt_of_le (S.out b hb) S.below.size
    · exact (S1.low i v b h3 h4).2
  obtain ⟨hD, _⟩ := convDL_sound S1 (ok := fun b => b) (bad := (env C h1 m w).bad) (fun b _ h => h) (fun i T sz rows fr v b ho hfr hm hb hbd => by
    rcases hbd with hbd | ⟨j, o, u, h2, h3, h4, h5⟩
    · have h6 := (S1.low i v b hm hb).1
      have h7 := S.out b hbd
      omega
    · by_cases hij : i = j
      · subst hij
        rw [ho] at h2; cases h2
        simp [AObj.live, hfr] at h3
      · exact S1.apart i j v u b hij hm h4 hb h5) hR1 hc
  refine Calls.mono (hr _ w cargs hbad hD) ?_
  rintro e w' ⟨v, rfl, hrel, hbel⟩
  refine ⟨v, m, rfl, S1.world hbel, ?_, U1.leN.trans (LeN.of (Nat.le_refl _) (le_world hbel))⟩
  have hids := Rel.ids (N := 0) (by simp) (by simp) r v hrel
  refine Rel.mono (p := fun i => decide (i < 0)) (E := ⟨(env C h1 m w).bad, [], [], w'⟩) (E' := env C h1 m w') ⟨fun b _ h => h, fun _ _ _ => rfl, Nat.le_refl _, fun i hi => by simp at hi, fun i hi => by simp at hi, fun i hi => by simp at hi⟩ r v hids hrel
end Go.Ab
namespace Go.Ab
open Go Go.RowKit
set_option linter.unusedVariables false

/-! ### walking a region -/
def RegW {P : Program} (F : Facts P) (ops : Array Oper) (l : List Nat) (s : St) (K : St → Prop) : Prop := ∃ s', RunR F ops l s s' ∧ K s'
/-- As far as it goes without a call. -/
def runV {P : Program} (F : Facts P) (ops : Array Oper) : List Nat → St → Option (St × List Nat)
  | [], s => some (s, [])
  | i :: l, s => match ops[i]? with
    | none => none
    | some o => match wantedV ops s o with
      | none => none
      | some false => runV F ops l ⟨puts s.t o.dst (.tup []), s.h⟩
      | some true => match opV F s o.op with
        | some (some v, h') => runV F ops l ⟨puts s.t o.dst v, h'⟩
        | some (none, h') => runV F ops l ⟨puts s.t o.dst (.tup []), h'⟩
        | none => some (s, i :: l)
theorem RegW.of_runV {P : Program} {F : Facts P} {ops : Array Oper} {K : St → Prop} : ∀ {l : List Nat} {s s1 : St} {l1 : List Nat}, runV F ops l s = some (s1, l1) → RegW F ops l1 s1 K → RegW F ops l s K
  | [], s, s1, l1, h, k => by
    simp only [runV, Option.some.injEq, Prod.mk.injEq] at h
    obtain ⟨rfl, rfl⟩ := h
    exact k
  | i :: l, s, s1, l1, h, k => by
    simp only [runV] at h
    split at h
    · cases h
    · rename_i o ho
      split at h
      · cases h
      · rename_i hw
        obtain ⟨s', hr, hk⟩ := RegW.of_runV h k
        exact ⟨s', .cons (.skip ho hw) hr, hk⟩
      · rename_i hw
        split at h
        · rename_i v h' hop
          obtain ⟨s', hr, hk⟩ := RegW.of_runV h k
          exact ⟨s', .cons (.val ho hw hop) hr, hk⟩
        · rename_i h' hop
          obtain ⟨s', hr, hk⟩ := RegW.of_runV h k
          exact ⟨s', .cons (.eff ho hw hop) hr, hk⟩
        · simp only [Option.some.injEq, Prod.mk.injEq] at h
          obtain ⟨rfl, rfl⟩ := h
          exact k
/-- The region's operations, as far as they go; then what is left. -/
def RegC {P : Program} (F : Facts P) (ops : Array Oper) (l : List Nat) (s : St) (K : St → Prop) : Prop :=
  match runV F ops l s with
  | some (s1, []) => K s1
  | some (s1, l1) => RegW F ops l1 s1 K
  | none => False
theorem RegC.w {P : Program} {F : Facts P} {ops : Array Oper} {K : St → Prop} {l : List Nat} {s : St} (h : RegC F ops l s K) : RegW F ops l s K := by
  unfold RegC at h
  split at h
  · rename_i s1 hr
    exact RegW.of_runV hr ⟨s1, .nil, h⟩
  · rename_i s1 l1 _ hr
    exact RegW.of_runV hr h
  · exact h.elim
theorem T_reg {P : Program} {b : Nat} {ro : Option Nat} {s : St} {K : Exit → St → Prop} {id : Nat} {ops : Array Oper} (F : Facts P) (h : RegC F ops (List.range ops.size) s (K .normal)) : T P b ro (.region id ops false) s K := by
  obtain ⟨s', hr, hk⟩ := h.w
  exact T_region hr hk
end Go.Ab
namespace Go.Ab
open Go Go.RowKit
set_option linter.unusedVariables false

/-! ### what an operation looks at -/
/-- The two heaps agree where p lets by. -/
def Same (p : Nat → Bool) (h h2 : List AObj) : Prop := ∀ i, p i = true → h2[i]? = h[i]?
section
variable {p : Nat → Bool} {h h2 : List AObj} {P : Program}
theorem cur_local (S : Same p h h2) {x : V} (hx : x.all p = true) : cur h2 x = cur h x := by
  cases x <;> simp only [cur, V.all] at * <;> rw [S _ hx]
theorem one_local (S : Same p h h2) {x : V} (hx : x.all p = true) : V.one h2 x = V.one h x := by
  cases x <;> simp only [V.one] <;> exact cur_local S hx
theorem ones_local (S : Same p h h2) : ∀ {xs : List V}, V.allL p xs = true → xs.all (V.one h2) = xs.all (V.one h)
  | [], _ => rfl
  | x :: xs, hx => by
    simp only [V.allL, Bool.and_eq_true] at hx
    simp only [List.all_cons, one_local S hx.1, ones_local S hx.2]
theorem flat_local (S : Same p h h2) {x : V} (hx : x.all p = true) : flat h2 x = flat h x := by
  cases x with
  | agg cs =>
    simp only [V.all] at hx
    simp only [flat, ones_local S hx]
  | _ => simp only [flat, one_local S hx]
theorem cellsAt_local (S : Same p h h2) {x : V} (hx : x.all p = true) : cellsAt h2 x = cellsAt h x := by
  cases x <;> simp only [cellsAt, V.all] at * <;> rw [S _ hx]
theorem loadV_local (S : Same p h h2) {T : TypeId} {x : V} (hx : x.all p = true) : loadV P h2 T x = loadV P h T x := by
  simp only [loadV, cellsAt_local S hx]
theorem shiftV_local (S : Same p h h2) {x : V} {off : Nat} (hx : x.all p = true) : shiftV h2 x off = shiftV h x off := by
  cases x <;> simp only [shiftV] <;> rw [cur_local S hx]
theorem fieldV_local (S : Same p h h2) {T f : Nat} {x : V} (hx : x.all p = true) : fieldV P h2 T x f = fieldV P h T x f := by
  simp only [fieldV]
  cases foff P T f <;> simp only [shiftV_local S hx]
theorem indexAddrV_local (S : Same p h h2) {T : Nat} {x i : V} (hx : x.all p = true) : indexAddrV P h2 T x i = indexAddrV P h T x i := by
  cases i <;> simp only [indexAddrV]
  split
  · cases elemT P T with
    | none => simp only [shiftV_local S hx]
    | some e =>
      cases x <;> simp only [V.all] at * <;> rw [S _ hx]
  · rfl
theorem sliceD_local (S : Same p h h2) {T : Nat} {x : V} {lo hi : Option V} (hx : x.all p = true) : sliceD P h2 T x lo hi = sliceD P h T x lo hi := by
  cases x <;> simp only [sliceD, V.all] at *
  rw [S _ hx]
def allP (p : Nat → Bool) : List (Nat × V) → Bool
  | [] => true
  | (_, v) :: r => v.all p && allP p r
theorem fillV_local (S : Same p h h2) {pl : List (Nat × Nat)} : ∀ {parts : List (Nat × V)} {cells : List V}, allP p parts = true → fillV h2 pl cells parts = fillV h pl cells parts
  | [], _, _ => rfl
  | (i, v) :: r, cells, hp => by
    simp only [allP, Bool.and_eq_true] at hp
    simp only [fillV, flat_local S hp.1]
    split
    · split
      · exact fillV_local S hp.2
      · rfl
    · rfl
theorem ofCell_all {v : Value} {x : V} (h : ofCell v = some x) : x.all p = true := by
  unfold ofCell at h
  split at h <;> simp at h <;> subst h <;> simp [V.all]
theorem ofCells_all : ∀ {vs : List Value} {xs : List V}, ofCells vs = some xs → V.allL p xs = true
  | [], xs, h => by simp [ofCells] at h; subst h; simp [V.allL]
  | v :: vs, xs, h => by
    simp only [ofCells] at h
    split at h
    · rename_i x xs' h1 h2
      simp at h; subst h
      simp [V.allL, ofCell_all h1, ofCells_all h2]
    · cases h
theorem ofValue_all {v : Value} {x : V} (h : ofValue v = some x) : x.all p = true := by
  unfold ofValue at h
  split at h
  · split at h
    · rename_i xs hx
      simp at h; subst h; simp [V.all, ofCells_all hx]
    · cases h
  · split at h
    · simp at h; subst h; simp [V.all, V.allL]
    · cases h
  · exact ofCell_all h
theorem zeroV_all {T : TypeId} {zs : List V} (h : zeroV P T = some zs) : V.allL p zs = true := by
  unfold zeroV at h
  split at h
  · split at h
    · split at h
      · rename_i cs hc
        simp at h; subst h
        have := ofValue_all (p := p) hc
        simpa [V.all] using this
      · cases h
      · rename_i x hx _ _
        simp at h; subst h
        have := ofValue_all (p := p) ‹ofValue _ = some _›
        simp [V.allL, this]
      · cases h
    · cases h
  · cases h
theorem buildV_local (S : Same p h h2) {T : TypeId} {parts : List (Nat × V)} (hp : allP p parts = true) : buildV P h2 T parts = buildV P h T parts := by
  simp only [buildV]
  cases placesT P T with
  | none => rfl
  | some pl =>
    cases hz : zeroV P T with
    | none => rfl
    | some zs => simp only [ones_local S (zeroV_all hz), fillV_local S hp]
theorem litV_local (S : Same p h h2) {T n : Nat} {parts : List (Nat × V)} (hp : allP p parts = true) : litV P h2 T n parts = litV P h T n parts := by
  simp only [litV]
  cases elemT P T with
  | none => rfl
  | some e =>
    obtain ⟨E, sz⟩ := e
    simp only
    cases hz : zeroV P E with
    | none => rfl
    | some zs => simp only [ones_local S (zeroV_all hz), fillV_local S hp]
theorem solidV_local (S : Same p h h2) {x : V} (hx : x.all p = true) : solidV h2 x = solidV h x := by
  cases x <;> simp only [solidV] <;> exact cur_local S hx
theorem lenV_local (S : Same p h h2) {T : TypeId} {x : V} (hx : x.all p = true) : lenV P h2 T x = lenV P h T x := by
  simp only [lenV]
  split <;> first | rfl | rw [cur_local S hx]
theorem conv_local (S : Same p h h2) {ok : Bool → Bool} {x : V} (hx : x.all p = true) : conv ok h2 x = conv ok h x := by
  cases x <;> simp only [conv, V.all] at * <;> rw [S _ hx]
theorem convL_local (S : Same p h h2) {ok : Bool → Bool} : ∀ {xs : List V}, V.allL p xs = true → convL ok h2 xs = convL ok h xs
  | [], _ => rfl
  | x :: xs, hx => by
    simp only [V.allL, Bool.and_eq_true] at hx
    simp only [convL, conv_local S hx.1, convL_local S hx.2]
theorem convD_local (S : Same p h h2) {ok : Bool → Bool} {x : V} (hx : x.all p = true) : convD ok h2 x = convD ok h x := by
  cases x with
  | agg cs => simp only [V.all] at hx; simp only [convD, convL_local S hx]
  | tup cs => simp only [V.all] at hx; simp only [convD, convL_local S hx]
  | _ => simp only [convD]; exact conv_local S hx
theorem convDL_local (S : Same p h h2) {ok : Bool → Bool} : ∀ {xs : List V}, V.allL p xs = true → convDL ok h2 xs = convDL ok h xs
  | [], _ => rfl
  | x :: xs, hx => by
    simp only [V.allL, Bool.and_eq_true] at hx
    simp only [convDL, convD_local S hx.1, convDL_local S hx.2]
end
/-- Rows that may be handed on as data are frozen: nothing is left to freeze. -/
theorem frz1_of_conv {h : List AObj} {x y : V} (hc : conv (fun b => b) h x = some y) : frz1 h x = h := by
  cases x <;> simp only [frz1]
  simp only [conv] at hc
  split at hc
  · rename_i T sz rows fr ho
    split at hc
    · rename_i hb
      simp only [ho]
      rw [show fr = true from hb.2.1]
    · cases hc
  · cases hc
theorem frzL_of_conv {h : List AObj} : ∀ {xs ys : List V}, convL (fun b => b) h xs = some ys → frzL h xs = h
  | [], _, _ => rfl
  | x :: xs, ys, hc => by
    simp only [convL] at hc
    split at hc
    · rename_i h1 h2
      simp only [frzL, frz1_of_conv h1, frzL_of_conv h2]
    · cases hc
theorem frzD_of_conv {h : List AObj} : ∀ {xs ys : List V}, convDL (fun b => b) h xs = some ys → frzD h xs = h
  | [], _, _ => rfl
  | x :: xs, ys, hc => by
    simp only [convDL] at hc
    split at hc
    · rename_i h1 h2
      cases x with
      | agg cs =>
        simp only [convD] at h1
        split at h1
        · rename_i h3
          simp only [frzD, frzL_of_conv h3, frzD_of_conv h2]
        · cases h1
      | tup cs => simp only [frzD, frz1, frzD_of_conv h2]
      | _ => simp only [convD] at h1; simp only [frzD]; rw [frz1_of_conv h1]; exact frzD_of_conv h2
    · cases hc
end Go.Ab
namespace Go.Ab
open Go Go.RowKit
set_option linter.unusedVariables false

/-- What an operation does to the heap. -/
inductive Eff where
  | none
  | set (a : Nat) (o : AObj)
  | push (o : AObj)
def Eff.app : Eff → List AObj → List AObj
  | .none, h => h
  | .set a o, h => h.set a o
  | .push o, h => h ++ [o]
/-- The object that it writes, or makes: and whether it makes it. -/
def cidE (e : Operand → Option V) (n : Nat) : Op → Option (Nat × Bool)
  | .alloc _ | .box _ _ | .makeSlice _ _ _ => some (n, true)
  | .store _ p _ => match e p with
    | some (.ptr i _) | some (.aptr i _ _ _) => some (i, false)
    | _ => none
  | .call ⟨.builtin .append, args, _⟩ => match args.toList with
    | [x, _] => match e x with
      | some (.arr i _) | some (.arrd i _ _) => some (i, false)
      | some .nil => some (n, true)
      | _ => none
    | _ => none
  | _ => none
def cidOf (s : St) (op : Op) : Option (Nat × Bool) := cidE (ev s) s.h.length op
/-- Nothing but what is looked at by name is looked at. -/
def tameE (e : Operand → Option V) : Op → Bool
  | .makeMap _ _ | .insert _ _ _ _ | .mapUpdate _ _ _ _ | .lookup _ _ _ _ | .typeAssert _ _ _ _ => false
  | .call ⟨.builtin .append, args, _⟩ => match args.toList with
    | [_, y] => match e y with
      | some (.arr _ _) => false
      | _ => true
    | _ => true
  | _ => true
def tame (s : St) (op : Op) : Bool := tameE (ev s) op
def seenA (p : Nat → Bool) (e : Operand → Option V) (op : Op) : Bool := op.operands.toList.all fun x => match e x with
  | some v => v.all p
  | none => true
/-- All that the operation looks at is let by; a pointer may be handed on unseen. -/
def seenE (p : Nat → Bool) (e : Operand → Option V) : Op → Bool
  | .move _ | .assign _ | .pick _ _ _ | .makeFunc _ _ _ => true
  | .nilCheck x | .fieldAddr _ x _ => match e x with
    | some (.ptr _ _) => true
    | some v => v.all p
    | none => true
  | op => seenA p e op
def seen (p : Nat → Bool) (s : St) (op : Op) : Bool := seenE p (ev s) op
/-- What it does to the heap, told. -/
def Does (p : Nat → Bool) (s : St) (op : Op) (eff : Eff) : Prop :=
  match eff with
  | .none => True
  | .set a _ => p a = true ∧ a < s.h.length ∧ cidOf s op = some (a, false)
  | .push _ => cidOf s op = some (s.h.length, true)
def Eff.grows : Eff → Bool
  | .push _ => true
  | _ => false
theorem ev_h {t : List V} {h h2 : List AObj} (x : Operand) : ev ⟨t, h⟩ x = ev ⟨t, h2⟩ x := by cases x <;> rfl
theorem evs_congr {s s2 : St} : ∀ {l : List Operand}, (∀ x ∈ l, ev s2 x = ev s x) → evs s2 l = evs s l
  | [], _ => rfl
  | x :: l, h => by
    simp only [evs, h x (by simp), evs_congr (l := l) (fun y hy => h y (by simp [hy]))]
theorem evp_congr {s s2 : St} : ∀ {l : List (Nat × Operand)}, (∀ x ∈ l.map (·.2), ev s2 x = ev s x) → evp s2 l = evp s l
  | [], _ => rfl
  | (i, x) :: l, h => by
    simp only [evp, h x (by simp), evp_congr (l := l) (fun y hy => h y (by simp at hy ⊢; exact .inr hy))]
theorem evp_all {p : Nat → Bool} {s : St} : ∀ {l : List (Nat × Operand)} {vs : List (Nat × V)}, ((l.map (·.2)).all fun x => match ev s x with | some v => v.all p | none => true) = true → evp s l = some vs → allP p vs = true
  | [], vs, _, h => by simp [evp] at h; subst h; rfl
  | (i, x) :: l, vs, hs, h => by
    simp only [evp] at h
    simp only [List.map_cons, List.all_cons, Bool.and_eq_true] at hs
    split at h
    · rename_i v vs' h1 h2
      simp at h; subst h
      rw [h1] at hs
      simp only [allP, Bool.and_eq_true]
      exact ⟨hs.1, evp_all hs.2 h2⟩
    · cases h
theorem evs_all {p : Nat → Bool} {s : St} : ∀ {l : List Operand} {vs : List V}, (l.all fun x => match ev s x with | some v => v.all p | none => true) = true → evs s l = some vs → V.allL p vs = true
  | [], vs, _, h => by simp [evs] at h; subst h; rfl
  | x :: l, vs, hs, h => by
    simp only [evs] at h
    simp only [List.all_cons, Bool.and_eq_true] at hs
    split at h
    · rename_i v vs' h1 h2
      simp at h; subst h
      rw [h1] at hs
      simp only [V.allL, Bool.and_eq_true]
      exact ⟨hs.1, evs_all hs.2 h2⟩
    · cases h
theorem optV_congr {s s2 : St} {x : Option Operand} (h : ∀ y ∈ x.toArray, ev s2 y = ev s y) : optV s2 x = optV s x := by
  cases x with
  | none => rfl
  | some x => simp only [optV, h x (by simp)]
theorem opV_local {P : Program} {F : Facts P} {p : Nat → Bool} {s : St} {op : Op} {r : Option V} {h' : List AObj} (hp : seen p s op = true) (ht : tame s op = true) (e : opV F s op = some (r, h')) :
    ∃ eff : Eff, h' = eff.app s.h ∧ Does p s op eff ∧ ∀ s2 : St, (∀ x ∈ op.operands, ev s2 x = ev s x) → Same p s.h s2.h → (eff.grows = true → s2.h.length = s.h.length) → opV F s2 op = some (r, eff.app s2.h) := by
  have quiet : (∀ s2 : St, (∀ x ∈ op.operands, ev s2 x = ev s x) → Same p s.h s2.h → opV F s2 op = some (r, s2.h)) → h' = s.h → ∃ eff : Eff, h' = eff.app s.h ∧ Does p s op eff ∧ ∀ s2 : St, (∀ x ∈ op.operands, ev s2 x = ev s x) → Same p s.h s2.h → (eff.grows = true → s2.h.length = s.h.length) → opV F s2 op = some (r, eff.app s2.h) :=
    fun k hh => ⟨.none, hh, trivial, fun s2 h1 h2 _ => k s2 h1 h2⟩
  cases op with
  | move x | assign x =>
    simp only [opV, Op.operands] at e hp quiet ⊢
    split at e
    · rename_i v hv
      simp only [Option.some.injEq, Prod.mk.injEq] at e
      obtain ⟨rfl, rfl⟩ := e
      exact quiet (fun s2 h1 h2 => by simp only [h1 x (by simp), hv]) rfl
    · cases e
  | pick c a b =>
    simp only [opV, Op.operands] at e hp quiet ⊢
    split at e
    · rename_i h1 h2 h3
      simp only [Option.some.injEq, Prod.mk.injEq] at e
      obtain ⟨rfl, rfl⟩ := e
      exact quiet (fun s2 k1 k2 => by simp only [k1 c (by simp), k1 a (by simp), k1 b (by simp), h1, h2, h3]) rfl
    · cases e
  | alloc T =>
    simp only [seen, seenE, seenA] at hp
    simp only [opV, Op.operands] at e hp quiet ⊢
    split at e
    · rename_i cs hcs
      simp only [Option.some.injEq, Prod.mk.injEq] at e
      obtain ⟨rfl, rfl⟩ := e
      exact ⟨.push _, rfl, rfl, fun s2 _ _ hl => by simp only [hcs, hl rfl, Eff.app]⟩
    · cases e
  | box T x =>
    simp only [seen, seenE, seenA] at hp
    simp only [opV, Op.operands] at e hp quiet ⊢
    simp only [List.all_cons, List.all_nil, Bool.and_true] at hp
    split at e
    · rename_i v hv
      rw [hv] at hp
      split at e
      · rename_i cs hcs
        simp only [Option.some.injEq, Prod.mk.injEq] at e
        obtain ⟨rfl, rfl⟩ := e
        exact ⟨.push _, rfl, rfl, fun s2 k1 k2 hl => by simp only [k1 x (by simp), hv, flat_local k2 hp, hcs, hl rfl, Eff.app]⟩
      · cases e
    · cases e
  | build T ps =>
    simp only [seen, seenE, seenA] at hp
    simp only [opV, Op.operands] at e hp quiet ⊢
    split at e
    · rename_i vs hv
      split at e
      · rename_i v hb
        simp only [Option.some.injEq, Prod.mk.injEq] at e
        obtain ⟨rfl, rfl⟩ := e
        exact quiet (fun s2 k1 k2 => by simp only [evp_congr (s := s) (l := ps.toList) (fun y hy => k1 y (by simpa using hy)), hv, buildV_local k2 (evp_all hp hv), hb]) rfl
      · cases e
    · cases e
  | buildSlice T n ps =>
    simp only [seen, seenE, seenA] at hp
    simp only [opV, Op.operands] at e hp quiet ⊢
    split at e
    · rename_i vs hv
      split at e
      · rename_i v hb
        simp only [Option.some.injEq, Prod.mk.injEq] at e
        obtain ⟨rfl, rfl⟩ := e
        exact quiet (fun s2 k1 k2 => by simp only [evp_congr (s := s) (l := ps.toList) (fun y hy => k1 y (by simpa using hy)), hv, litV_local k2 (evp_all hp hv), hb]) rfl
      · cases e
    · cases e
  | load T x =>
    simp only [seen, seenE, seenA] at hp
    simp only [opV, Op.operands] at e hp quiet ⊢
    simp only [List.all_cons, List.all_nil, Bool.and_true] at hp
    split at e
    · rename_i v hv
      rw [hv] at hp
      split at e
      · rename_i y hy
        simp only [Option.some.injEq, Prod.mk.injEq] at e
        obtain ⟨rfl, rfl⟩ := e
        exact quiet (fun s2 k1 k2 => by simp only [k1 x (by simp), hv, loadV_local k2 hp, hy]) rfl
      · cases e
    · cases e
  | store T q x =>
    simp only [seen, seenE, seenA] at hp
    simp only [opV, Op.operands] at e hp quiet ⊢
    simp only [List.all_cons, List.all_nil, Bool.and_true, Bool.and_eq_true] at hp
    split at e
    · rename_i pv v hpv hv
      rw [hpv, hv] at hp
      split at e
      · rename_i h1 hst
        simp only [Option.some.injEq, Prod.mk.injEq] at e
        obtain ⟨rfl, rfl⟩ := e
        unfold storeH at hst
        split at hst
        · cases hst
        · rename_i xs hxs
          split at hst
          · cases hst
          · rename_i hT
            split at hst
            · rename_i i off
              simp only [V.all] at hp
              split at hst
              · rename_i T0 cs ho
                split at hst
                · rename_i hle
                  simp only [Option.some.injEq] at hst; subst hst
                  refine ⟨.set i _, rfl, ⟨hp.1, (List.getElem?_eq_some_iff.1 ho).1, by simp only [cidOf, cidE, hpv]⟩, fun s2 k1 k2 _ => ?_⟩
                  simp only [k1 q (by simp), k1 x (by simp), hpv, hv]
                  unfold storeH
                  simp only [flat_local k2 hp.2, hxs, if_neg hT, k2 i hp.1, ho, if_pos hle, Eff.app]
                · cases hst
              · cases hst
            · rename_i i n r off
              simp only [V.all] at hp
              split at hst
              · rename_i T0 sz rows ho
                split at hst
                · rename_i hn
                  split at hst
                  · rename_i row hr
                    split at hst
                    · rename_i hle
                      simp only [Option.some.injEq] at hst; subst hst
                      refine ⟨.set i _, rfl, ⟨hp.1, (List.getElem?_eq_some_iff.1 ho).1, by simp only [cidOf, cidE, hpv]⟩, fun s2 k1 k2 _ => ?_⟩
                      simp only [k1 q (by simp), k1 x (by simp), hpv, hv]
                      unfold storeH
                      simp only [flat_local k2 hp.2, hxs, if_neg hT, k2 i hp.1, ho, if_pos hn, hr, if_pos hle, Eff.app]
                    · cases hst
                  · cases hst
                · cases hst
              · cases hst
            · cases hst
      · cases e
    · cases e
  | nilCheck x =>
    simp only [opV, seen, seenE, Op.operands] at e hp quiet ⊢
    split at e
    · rename_i v hv
      rw [hv] at hp
      split at e
      · rename_i hs
        simp only [Option.some.injEq, Prod.mk.injEq] at e
        obtain ⟨rfl, rfl⟩ := e
        refine quiet (fun s2 k1 k2 => ?_) rfl
        have hl : solidV s2.h v = solidV s.h v := by
          cases v <;> first | rfl | exact solidV_local k2 hp
        simp only [k1 x (by simp), hv, hl, hs, if_true]
      · cases e
    · cases e
  | binOp b T x y T' =>
    simp only [seen, seenE, seenA] at hp
    simp only [opV, Op.operands] at e hp quiet ⊢
    split at e
    · rename_i v u hv hu
      split at e
      · rename_i z hz
        simp only [Option.some.injEq, Prod.mk.injEq] at e
        obtain ⟨rfl, rfl⟩ := e
        exact quiet (fun s2 k1 k2 => by simp only [k1 x (by simp), k1 y (by simp), hv, hu, hz]) rfl
      · cases e
    · cases e
  | unOp u T x =>
    simp only [seen, seenE, seenA] at hp
    simp only [opV, Op.operands] at e hp quiet ⊢
    split at e
    · rename_i b hv
      simp only [Option.some.injEq, Prod.mk.injEq] at e
      obtain ⟨rfl, rfl⟩ := e
      exact quiet (fun s2 k1 k2 => by simp only [k1 x (by simp), hv]) rfl
    · rename_i k n hv
      simp only [Option.some.injEq, Prod.mk.injEq] at e
      obtain ⟨rfl, rfl⟩ := e
      exact quiet (fun s2 k1 k2 => by simp only [k1 x (by simp), hv]) rfl
    · cases e
  | makeFunc f fs cs =>
    cases f with
    | func f =>
      simp only [opV, Op.operands] at e hp quiet ⊢
      split at e
      · rename_i a b ha hb
        simp only [Option.some.injEq, Prod.mk.injEq] at e
        obtain ⟨rfl, rfl⟩ := e
        exact quiet (fun s2 k1 k2 => by
          simp only [evs_congr (s := s) (l := fs.toList) (fun y hy => k1 y (by simp at hy ⊢; exact .inl hy)), evs_congr (s := s) (l := cs.toList) (fun y hy => k1 y (by simp at hy ⊢; exact .inr hy)), ha, hb]) rfl
      · cases e
    | _ => simp [opV] at e
  | makeSlice T n c =>
    simp only [seen, seenE, seenA] at hp
    simp only [opV, Op.operands] at e hp quiet ⊢
    split at e
    · rename_i k k' hk hk'
      split at e
      · rename_i hkk
        split at e
        · rename_i v h1 hm
          simp only [Option.some.injEq, Prod.mk.injEq] at e
          obtain ⟨rfl, rfl⟩ := e
          unfold makeV at hm
          split at hm
          · rename_i E0 k1 he heq
            split at hm
            · rename_i z hz
              split at hm
              · rename_i hb
                simp only [Option.some.injEq, Prod.mk.injEq] at hm
                obtain ⟨rfl, rfl⟩ := hm
                refine ⟨.push _, rfl, rfl, fun s2 q1 q2 hl => ?_⟩
                cases heq
                simp only [q1 n (by simp), q1 c (by simp), hk, hk', if_pos hkk]
                unfold makeV
                simp only [he, hz, if_pos hb, hl rfl, Eff.app]
              · cases hm
            · cases hm
          · cases hm
        · cases e
      · cases e
    · cases e
  | slice T x lo hi mx =>
    simp only [seen, seenE, seenA] at hp
    cases mx with
    | none =>
      simp only [opV, Op.operands] at e hp quiet ⊢
      split at e
      · rename_i v l u hv hl hu
        have hpx : v.all p = true := by
          simp only [Array.toList_append, List.all_append, List.all_cons, List.all_nil, Bool.and_true, Bool.and_eq_true, hv] at hp
          exact hp.1.1.1
        split at e
        · rename_i y hy
          simp only [Option.some.injEq, Prod.mk.injEq] at e
          obtain ⟨rfl, rfl⟩ := e
          exact quiet (fun s2 k1 k2 => by
            simp only [sliceD_local k2 hpx, k1 x (by simp), optV_congr (s := s) (x := lo) (fun y hy => k1 y (by simp at hy ⊢; exact .inr (.inl hy))), optV_congr (s := s) (x := hi) (fun y hy => k1 y (by simp at hy ⊢; exact .inr (.inr hy))), hv, hl, hu, hy]) rfl
        · cases e
      · cases e
    | some m => simp [opV] at e
  | fieldAddr T x f =>
    simp only [opV, seen, seenE, Op.operands] at e hp quiet ⊢
    split at e
    · rename_i v hv
      rw [hv] at hp
      split at e
      · rename_i y hy
        simp only [Option.some.injEq, Prod.mk.injEq] at e
        obtain ⟨rfl, rfl⟩ := e
        refine quiet (fun s2 k1 k2 => ?_) rfl
        have hl : fieldV P s2.h T v f = fieldV P s.h T v f := by
          cases v <;> first | exact fieldV_local k2 hp | (simp only [fieldV, shiftV])
        simp only [k1 x (by simp), hv, hl, hy]
      · cases e
    · cases e
  | field T x f =>
    simp only [seen, seenE, seenA] at hp
    simp only [opV, Op.operands] at e hp quiet ⊢
    split at e
    · rename_i v hv
      split at e
      · rename_i y hy
        simp only [Option.some.injEq, Prod.mk.injEq] at e
        obtain ⟨rfl, rfl⟩ := e
        exact quiet (fun s2 k1 k2 => by simp only [k1 x (by simp), hv, hy]) rfl
      · cases e
    · cases e
  | indexAddr T x i =>
    simp only [seen, seenE, seenA] at hp
    simp only [opV, Op.operands] at e hp quiet ⊢
    simp only [List.all_cons, List.all_nil, Bool.and_true, Bool.and_eq_true] at hp
    split at e
    · rename_i v k hv hk
      rw [hv, hk] at hp
      split at e
      · rename_i y hy
        simp only [Option.some.injEq, Prod.mk.injEq] at e
        obtain ⟨rfl, rfl⟩ := e
        exact quiet (fun s2 k1 k2 => by simp only [k1 x (by simp), k1 i (by simp), hv, hk, indexAddrV_local k2 hp.1, hy]) rfl
      · cases e
    · cases e
  | index T x i =>
    simp only [seen, seenE, seenA] at hp
    simp only [opV, Op.operands] at e hp quiet ⊢
    split at e
    · rename_i v k hv hk
      split at e
      · rename_i y hy
        simp only [Option.some.injEq, Prod.mk.injEq] at e
        obtain ⟨rfl, rfl⟩ := e
        exact quiet (fun s2 k1 k2 => by simp only [k1 x (by simp), k1 i (by simp), hv, hk, hy]) rfl
      · cases e
    · cases e
  | extract x i =>
    simp only [seen, seenE, seenA] at hp
    simp only [opV, Op.operands] at e hp quiet ⊢
    split at e
    · rename_i cs hv
      split at e
      · rename_i y hy
        simp only [Option.some.injEq, Prod.mk.injEq] at e
        obtain ⟨rfl, rfl⟩ := e
        exact quiet (fun s2 k1 k2 => by simp only [k1 x (by simp), hv, hy]) rfl
      · cases e
    · cases e
  | makeInterface T x =>
    simp only [seen, seenE, seenA] at hp
    simp only [opV, Op.operands] at e hp quiet ⊢
    split at e
    · rename_i v fs hv hu
      simp only [Option.some.injEq, Prod.mk.injEq] at e
      obtain ⟨rfl, rfl⟩ := e
      exact quiet (fun s2 k1 k2 => by simp only [k1 x (by simp), hv, hu]) rfl
    · cases e
  | typeAssert x xT T ok => simp [tame, tameE] at ht
  | makeMap T r => simp [tame, tameE] at ht
  | insert T m k x => simp [tame, tameE] at ht
  | mapUpdate T m k x => simp [tame, tameE] at ht
  | lookup T x k ok => simp [tame, tameE] at ht
  | call c =>
    simp only [seen, seenE, seenA] at hp
    obtain ⟨callee, args, ts⟩ := c
    cases callee with
    | builtin b =>
      rcases args with ⟨args⟩
      rcases ts with ⟨ts⟩
      cases b with
      | len =>
        rcases args with _ | ⟨x, _ | ⟨y, l⟩⟩
        · simp [opV] at e
        · rcases ts with _ | ⟨T, _ | ⟨T', l⟩⟩
          · simp [opV] at e
          · simp only [opV, Op.operands, Call.operands] at e hp quiet ⊢
            simp only [List.all_cons, List.all_nil, Bool.and_true, Array.toList_empty, Array.toList_append, List.nil_append] at hp
            split at e
            · rename_i v hv
              rw [hv] at hp
              split at e
              · rename_i y hy
                simp only [Option.some.injEq, Prod.mk.injEq] at e
                obtain ⟨rfl, rfl⟩ := e
                exact quiet (fun s2 k1 k2 => by simp only [k1 x (by simp), hv, lenV_local k2 hp, hy]) rfl
              · cases e
            · cases e
          · simp [opV] at e
        · simp [opV] at e
      | append =>
        rcases args with _ | ⟨x, _ | ⟨y, _ | ⟨z, l⟩⟩⟩
        · simp [opV] at e
        · simp [opV] at e
        · rcases ts with _ | ⟨T, _ | ⟨T', _ | ⟨T'', l⟩⟩⟩
          · simp [opV] at e
          · simp [opV] at e
          · simp only [opV, Op.operands, Call.operands] at e hp quiet ⊢
            simp only [List.all_cons, List.all_nil, Bool.and_true, Array.toList_append, List.nil_append, Bool.and_eq_true] at hp
            simp only [tame, tameE] at ht
            split at e
            · rename_i v u hv hu
              rw [hv, hu] at hp
              rw [hu] at ht
              split at e
              · rename_i hTT
                split at e
                · rename_i z h1 hap
                  simp only [Option.some.injEq, Prod.mk.injEq] at e
                  obtain ⟨rfl, rfl⟩ := e
                  have hsrc : ∀ (sz : Nat) (hh : List AObj), srcRows hh sz u = srcRows s.h sz u := fun sz hh => by
                    cases u <;> simp_all [srcRows]
                  have hall : ∀ (sz : Nat) (rows : List (List V)), srcRows s.h sz u = some rows → V.allL p rows.flatten = true := fun sz rows hr => by
                    cases u with
                    | nil => simp only [srcRows] at hr; simp at hr; subst hr; simp [V.allL]
                    | sl sz' rows' =>
                      simp only [srcRows] at hr
                      split at hr
                      · simp at hr; subst hr
                        simpa [V.all, allR_flatten] using hp.2
                      · cases hr
                    | arr i n => simp at ht
                    | _ => simp only [srcRows] at hr; cases hr
                  by_cases hd : ∃ i n k, v = .arrd i n k
                  · obtain ⟨i, n, k, rfl⟩ := hd
                    simp only [appendD] at hap
                    split at hap
                    · rename_i E sz hE
                      split at hap
                      · rename_i rows zs E' sz' old hrows hzs ho
                        split at hap
                        · rename_i hc
                          simp only [Option.some.injEq, Prod.mk.injEq] at hap
                          obtain ⟨rfl, rfl⟩ := hap
                          simp only [V.all] at hp
                          refine ⟨.set i _, rfl, ⟨hp.1, (List.getElem?_eq_some_iff.1 ho).1, by simp only [cidOf, cidE, hv]⟩, fun s2 k1 k2 hl => ?_⟩
                          simp only [k1 x (by simp), k1 y (by simp), hv, hu, if_pos hTT]
                          have hc2 := hc
                          rw [← ones_local k2 (hall sz rows hrows)] at hc2
                          simp only [appendD, hE, hsrc, hrows, hzs, k2 i hp.1, ho, if_pos hc2, Eff.app]
                        · cases hap
                      · cases hap
                    · cases hap
                  have hD : ∀ hh, appendD P hh T v u = appendV P hh T v u := fun hh => by
                    cases v <;> first | rfl | exact absurd ⟨_, _, _, rfl⟩ hd
                  rw [hD] at hap
                  unfold appendV at hap
                  split at hap
                  · rename_i E sz hE
                    split at hap
                    · rename_i rows zs hrows hzs
                      split at hap
                      · rename_i hb
                        have hb2 : ∀ s2 : St, Same p s.h s2.h → (zs.length = sz ∧ 0 < P.bytesOf E ∧ rows.flatten.all (V.one s2.h) = true) := fun s2 k2 => ⟨hb.1, hb.2.1, by rw [ones_local k2 (hall sz rows hrows)]; exact hb.2.2⟩
                        split at hap
                        · split at hap
                          · simp only [Option.some.injEq, Prod.mk.injEq] at hap
                            obtain ⟨rfl, rfl⟩ := hap
                            refine quiet (fun s2 k1 k2 => ?_) rfl
                            simp only [k1 x (by simp), k1 y (by simp), hv, hu, if_pos hTT, hD]
                            unfold appendV
                            simp only [hE, hsrc, hrows, hzs, if_pos (hb2 s2 k2)]
                          · rename_i i n
                            split at hap
                            · rename_i E' sz' old ho
                              split at hap
                              · rename_i hc
                                simp only [Option.some.injEq, Prod.mk.injEq] at hap
                                obtain ⟨rfl, rfl⟩ := hap
                                refine quiet (fun s2 k1 k2 => ?_) rfl
                                simp only [V.all] at hp
                                simp only [k1 x (by simp), k1 y (by simp), hv, hu, if_pos hTT, hD]
                                unfold appendV
                                simp only [hE, hsrc, hrows, hzs, if_pos (hb2 s2 k2), k2 i hp.1, ho, if_pos hc]
                              · cases hap
                            · cases hap
                          · cases hap
                        · rename_i hne
                          split at hap
                          · split at hap
                            · rename_i hsz
                              simp only [Option.some.injEq, Prod.mk.injEq] at hap
                              obtain ⟨rfl, rfl⟩ := hap
                              refine ⟨.push _, rfl, by simp only [Does, cidOf, cidE, hv], fun s2 k1 k2 hl => ?_⟩
                              simp only [k1 x (by simp), k1 y (by simp), hv, hu, if_pos hTT, hD]
                              unfold appendV
                              simp only [hE, hsrc, hrows, hzs, if_pos (hb2 s2 k2), if_pos hsz, hl rfl, Eff.app]
                            · cases hap
                          · rename_i i n
                            split at hap
                            · rename_i E' sz' old ho
                              split at hap
                              · rename_i hc
                                simp only [Option.some.injEq, Prod.mk.injEq] at hap
                                obtain ⟨rfl, rfl⟩ := hap
                                simp only [V.all] at hp
                                refine ⟨.set i _, rfl, ⟨hp.1, (List.getElem?_eq_some_iff.1 ho).1, by simp only [cidOf, cidE, hv]⟩, fun s2 k1 k2 hl => ?_⟩
                                simp only [k1 x (by simp), k1 y (by simp), hv, hu, if_pos hTT, hD]
                                unfold appendV
                                simp only [hE, hsrc, hrows, hzs, if_pos (hb2 s2 k2), k2 i hp.1, ho, if_pos hc, Eff.app]
                              · cases hap
                            · cases hap
                          · cases hap
                      · cases hap
                    · cases hap
                  · cases hap
                · cases e
              · cases e
            · cases e
          · simp [opV] at e
        · simp [opV] at e
      | max =>
        rcases args with _ | ⟨x, _ | ⟨y, _ | ⟨z, l⟩⟩⟩
        · simp [opV] at e
        · simp [opV] at e
        · simp only [opV, Op.operands, Call.operands] at e hp quiet ⊢
          split at e
          · rename_i k a k' b hv hu
            simp only [Option.some.injEq, Prod.mk.injEq] at e
            obtain ⟨rfl, rfl⟩ := e
            exact quiet (fun s2 k1 k2 => by simp only [k1 x (by simp), k1 y (by simp), hv, hu]) rfl
          · cases e
        · simp [opV] at e
      | min =>
        rcases args with _ | ⟨x, _ | ⟨y, _ | ⟨z, l⟩⟩⟩
        · simp [opV] at e
        · simp [opV] at e
        · simp only [opV, Op.operands, Call.operands] at e hp quiet ⊢
          split at e
          · rename_i k a k' b hv hu
            simp only [Option.some.injEq, Prod.mk.injEq] at e
            obtain ⟨rfl, rfl⟩ := e
            exact quiet (fun s2 k1 k2 => by simp only [k1 x (by simp), k1 y (by simp), hv, hu]) rfl
          · cases e
        · simp [opV] at e
      | _ => simp [opV] at e
    | _ => simp [opV] at e
  | _ => simp [opV] at e
end Go.Ab
