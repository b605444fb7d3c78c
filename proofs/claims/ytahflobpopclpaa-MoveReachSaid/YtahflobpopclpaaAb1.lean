import Derived.Below
import Derived.WalkKit
import Derived.OwnWalk
/- An abstract reading of the machine's values: what a value says as plain data, whatever the addresses are. -/
namespace Go.Ab
open Go Go.RowKit
set_option linter.unusedVariables false

/-- A value, read. -/
inductive V where
  | bool (b : Bool) | int (k : IntKind) (n : Int) | str (s : ByteArray)
  | nil
  | sl (sz : Nat) (rows : List (List V))
  | agg (cs : List V) | tup (cs : List V)
  | ro (cs : List V)
  | ptr (i off : Nat) | nilptr
  | arr (i n : Nat) | aptr (i n r off : Nat)
  | arrd (i n k : Nat) | qptr (i n r off : Nat)
  | fn (f : FuncId) (first caps : List V) | yield (l : Nat)
  | nilfn | nilif | iface (t : TypeId) (v : V)
  | map (i : Nat)
  | undef

/-- What the abstract heap holds. -/
inductive AObj where
  | box (T : TypeId) (cs : List V)
  | arr (T sz : Nat) (rows : List (List V)) (frozen : Bool)
  | map (es : List (V × V))
  | que (T sz : Nat) (rows : List (List V))
  | loop (st : LoopState) (pe : Option Code) (t : List V) (ps : Array Tmp) (as bd : Code)
  | dead

structure Env where
  bad : Nat → Prop
  m : List Value
  h : List AObj
  w : World

mutual
def Rel (E : Env) : V → Value → Prop
  | .bool b, v => v = .bool b
  | .int k n, v => v = .int k n
  | .str s, v => v = .string s
  | .nil, v => v = .slice none 0 0
  | .sl sz rows, v => ∃ A c, v = .slice A rows.length c ∧ (rows.length ≤ c ∧ rows.length ≤ 9223372036854775807) ∧ (rows = [] ∨ ∃ ad, A = some ad ∧ ¬ E.bad ad.block ∧ ad.block < E.w.heap.size ∧ RelRows E ad sz 0 rows)
  | .agg cs, v => ∃ vs, v = .agg vs ∧ RelL E cs vs.toList
  | .tup cs, v => ∃ vs, v = .tuple vs ∧ RelL E cs vs.toList
  | .ro cs, v => ∃ ad, v = .pointer (some ad) ∧ ¬ E.bad ad.block ∧ ad.block < E.w.heap.size ∧ RelCells E ad 0 cs
  | .ptr i off, v => ∃ b, E.m[i]? = some (.pointer (some ⟨b, 0, none⟩)) ∧ v = .pointer (some ⟨b, off, none⟩)
  | .nilptr, v => v = .pointer none
  | .arr i n, v => i < E.h.length ∧ ∀ T sz rows fr, E.h[i]? = some (.arr T sz rows fr) → n ≤ rows.length ∧ (n = rows.length → E.m[i]? = some v)
  | .aptr i n r off, v => i < E.h.length ∧ ∀ T sz rows fr, E.h[i]? = some (.arr T sz rows fr) → n ≤ rows.length ∧ (n = rows.length → ∃ g cap, E.m[i]? = some (.slice (some ⟨g, 0, none⟩) n cap) ∧ v = .pointer (some ⟨g, r * sz + off, none⟩))
  | .fn f first caps, v => ∃ a b, v = .func (.func f) a b ∧ RelL E first a.toList ∧ RelL E caps b.toList
  | .arrd i n k, v => ∃ T sz rows, E.h[i]? = some (.que T sz rows) ∧ n ≤ rows.length ∧ (n = rows.length → ∃ A c j, E.m[i]? = some (.slice A (n - j) c) ∧ j ≤ k ∧ k ≤ n ∧ n - j ≤ c ∧
      ∃ A', v = .slice A' (n - k) (c - (k - j)) ∧ (c = k - j ∨ ∃ g, A = some ⟨g, 0, none⟩ ∧ A' = some ⟨g, (k - j) * sz, none⟩))
  | .qptr i n r off, v => ∃ T sz rows, E.h[i]? = some (.que T sz rows) ∧ n ≤ rows.length ∧ (n = rows.length → ∃ g c j, E.m[i]? = some (.slice (some ⟨g, 0, none⟩) (n - j) c) ∧ j ≤ r ∧ r < n ∧ v = .pointer (some ⟨g, (r - j) * sz + off, none⟩))
  | .yield i, v => ∃ b, E.m[i]? = some (.func (.yield b) #[] #[]) ∧ v = .func (.yield b) #[] #[]
  | .nilfn, v => v = .nilFunc
  | .nilif, v => v = .nilIface
  | .iface t x, v => ∃ u, v = .iface t u ∧ Rel E x u
  | .map i, v => ∃ b, E.m[i]? = some (.map (some b)) ∧ v = .map (some b)
  | .undef, _ => True
def RelL (E : Env) : List V → List Value → Prop
  | [], vs => vs = []
  | c :: cs, vs => ∃ u us, vs = u :: us ∧ Rel E c u ∧ RelL E cs us
def RelCells (E : Env) (ad : Addr) (k : Nat) : List V → Prop
  | [] => True
  | c :: cs => (∃ u, E.w.cell? (ad.add k) = some u ∧ Rel E c u) ∧ RelCells E ad (k + 1) cs
def RelRows (E : Env) (ad : Addr) (sz : Nat) (k : Nat) : List (List V) → Prop
  | [] => True
  | r :: rs => r.length = sz ∧ RelCells E ad k r ∧ RelRows E ad sz (k + sz) rs
end

mutual
/-- All references in a value satisfy p. -/
def V.all (p : Nat → Bool) : V → Bool
  | .bool _ | .int _ _ | .str _ | .nil | .nilptr | .nilfn | .nilif | .undef => true
  | .sl _ rows => V.allR p rows
  | .agg cs | .tup cs | .ro cs => V.allL p cs
  | .ptr i _ | .arr i _ | .aptr i _ _ _ | .map i | .arrd i _ _ | .qptr i _ _ _ | .yield i => p i
  | .fn _ a b => V.allL p a && V.allL p b
  | .iface _ v => v.all p
def V.allL (p : Nat → Bool) : List V → Bool
  | [] => true
  | c :: cs => c.all p && V.allL p cs
def V.allR (p : Nat → Bool) : List (List V) → Bool
  | [] => true
  | r :: rs => V.allL p r && V.allR p rs
end
theorem cell_same {w w' : World} {a : Addr} (h : w'.heap[a.block]? = w.heap[a.block]?) : w'.cell? a = w.cell? a := by
  unfold World.cell?; rw [h]
/-- What is known of a later state, for the references that p lets by: of cells alone. -/
structure Env.LeC (p : Nat → Bool) (E E' : Env) : Prop where
  nb : ∀ b, b < E.w.heap.size → E'.bad b → E.bad b
  ck : ∀ ad u, ad.block < E.w.heap.size → ¬ E.bad ad.block → E.w.cell? ad = some u → E'.w.cell? ad = some u
  sz : E.w.heap.size ≤ E'.w.heap.size
  mp : ∀ i, p i = true → ∀ v, E.m[i]? = some v → (∀ A n c, v ≠ .slice A n c) → E'.m[i]? = some v
  ma : ∀ i, p i = true → i < E.h.length → i < E'.h.length ∧ ∀ T sz rows fr, E'.h[i]? = some (.arr T sz rows fr) →
    ∃ T0 rows0 fr0, E.h[i]? = some (.arr T0 sz rows0 fr0) ∧ rows0.length ≤ rows.length ∧ (rows0.length = rows.length → E'.m[i]? = E.m[i]?)
  mq : ∀ i, p i = true → ∀ T sz rows, E.h[i]? = some (.que T sz rows) → ∃ rows', E'.h[i]? = some (.que T sz rows') ∧ rows.length ≤ rows'.length ∧ (rows.length = rows'.length → E'.m[i]? = E.m[i]?)
/-- What is known of a later state, for the references that p lets by. -/
structure Env.Le (p : Nat → Bool) (E E' : Env) : Prop where
  nb : ∀ b, b < E.w.heap.size → E'.bad b → E.bad b
  wk : ∀ b, b < E.w.heap.size → ¬ E.bad b → E'.w.heap[b]? = E.w.heap[b]?
  sz : E.w.heap.size ≤ E'.w.heap.size
  mp : ∀ i, p i = true → ∀ v, E.m[i]? = some v → (∀ A n c, v ≠ .slice A n c) → E'.m[i]? = some v
  ma : ∀ i, p i = true → i < E.h.length → i < E'.h.length ∧ ∀ T sz rows fr, E'.h[i]? = some (.arr T sz rows fr) →
    ∃ T0 rows0 fr0, E.h[i]? = some (.arr T0 sz rows0 fr0) ∧ rows0.length ≤ rows.length ∧ (rows0.length = rows.length → E'.m[i]? = E.m[i]?)
  mq : ∀ i, p i = true → ∀ T sz rows, E.h[i]? = some (.que T sz rows) → ∃ rows', E'.h[i]? = some (.que T sz rows') ∧ rows.length ≤ rows'.length ∧ (rows.length = rows'.length → E'.m[i]? = E.m[i]?)
theorem Env.Le.c {p : Nat → Bool} {E E' : Env} (L : Env.Le p E E') : Env.LeC p E E' :=
  ⟨L.nb, fun ad u hlt hn hc => by rw [← hc]; exact cell_same (L.wk _ hlt hn), L.sz, L.mp, L.ma, L.mq⟩
theorem add_block (ad : Addr) (k : Nat) : (ad.add k).block = ad.block := by unfold Addr.add; split <;> rfl
mutual
theorem Rel.monoC {p : Nat → Bool} {E E' : Env} (L : Env.LeC p E E') : ∀ (x : V) (v : Value), x.all p = true → Rel E x v → Rel E' x v
  | .bool _, _, _, h | .int _ _, _, _, h | .str _, _, _, h | .nil, _, _, h | .nilptr, _, _, h | .nilfn, _, _, h | .nilif, _, _, h => by
    simpa only [Rel] using h
  | .undef, _, _, _ => by simp only [Rel]
  | .sl sz rows, v, ha, h => by
    simp only [Rel, V.all] at *
    obtain ⟨A, c, rfl, hl, hr⟩ := h
    refine ⟨A, c, rfl, hl, ?_⟩
    rcases hr with rfl | ⟨ad, rfl, hb, hlt, hR⟩
    · exact .inl rfl
    · exact .inr ⟨ad, rfl, fun hb' => hb (L.nb _ hlt hb'), Nat.lt_of_lt_of_le hlt L.sz, RelRows.monoC L rows ad sz 0 ha hb hlt hR⟩
  | .agg cs, v, ha, h => by
    simp only [Rel, V.all] at *
    obtain ⟨vs, rfl, hR⟩ := h
    exact ⟨vs, rfl, RelL.monoC L cs _ ha hR⟩
  | .tup cs, v, ha, h => by
    simp only [Rel, V.all] at *
    obtain ⟨vs, rfl, hR⟩ := h
    exact ⟨vs, rfl, RelL.monoC L cs _ ha hR⟩
  | .ro cs, v, ha, h => by
    simp only [Rel, V.all] at *
    obtain ⟨ad, rfl, hb, hlt, hR⟩ := h
    exact ⟨ad, rfl, fun hb' => hb (L.nb _ hlt hb'), Nat.lt_of_lt_of_le hlt L.sz, RelCells.monoC L cs ad 0 ha hb hlt hR⟩
  | .ptr i off, v, ha, h => by
    simp only [Rel, V.all] at *
    obtain ⟨b, hm, rfl⟩ := h
    exact ⟨b, L.mp i ha _ hm (by simp), rfl⟩
  | .arr i n, v, ha, h => by
    simp only [Rel, V.all] at *
    obtain ⟨hl, h⟩ := h
    obtain ⟨hl', hm⟩ := L.ma i ha hl
    refine ⟨hl', fun T sz rows fr ho => ?_⟩
    obtain ⟨T0, rows0, fr0, h0, hle, hs⟩ := hm T sz rows fr ho
    obtain ⟨h1, h2⟩ := h T0 sz rows0 fr0 h0
    refine ⟨by omega, fun hn => ?_⟩
    have he : rows0.length = rows.length := by omega
    rw [hs he]; exact h2 (by omega)
  | .aptr i n r off, v, ha, h => by
    simp only [Rel, V.all] at *
    obtain ⟨hl, h⟩ := h
    obtain ⟨hl', hm⟩ := L.ma i ha hl
    refine ⟨hl', fun T sz rows fr ho => ?_⟩
    obtain ⟨T0, rows0, fr0, h0, hle, hs⟩ := hm T sz rows fr ho
    obtain ⟨h1, h2⟩ := h T0 sz rows0 fr0 h0
    refine ⟨by omega, fun hn => ?_⟩
    have he : rows0.length = rows.length := by omega
    rw [hs he]; exact h2 (by omega)
  | .arrd i n k, v, ha, h => by
    simp only [Rel, V.all] at *
    obtain ⟨T, sz, rows, ho, hle, h⟩ := h
    obtain ⟨rows', ho', hle', hm⟩ := L.mq i ha T sz rows ho
    refine ⟨T, sz, rows', ho', by omega, fun hn => ?_⟩
    have he : rows.length = rows'.length := by omega
    rw [hm he]; exact h (by omega)
  | .qptr i n r off, v, ha, h => by
    simp only [Rel, V.all] at *
    obtain ⟨T, sz, rows, ho, hle, h⟩ := h
    obtain ⟨rows', ho', hle', hm⟩ := L.mq i ha T sz rows ho
    refine ⟨T, sz, rows', ho', by omega, fun hn => ?_⟩
    have he : rows.length = rows'.length := by omega
    rw [hm he]; exact h (by omega)
  | .yield i, v, ha, h => by
    simp only [Rel, V.all] at *
    obtain ⟨b, hm, rfl⟩ := h
    exact ⟨b, L.mp i ha _ hm (by simp), rfl⟩
  | .fn f a b, v, ha, h => by
    simp only [Rel, V.all, Bool.and_eq_true] at *
    obtain ⟨x, y, rfl, h1, h2⟩ := h
    exact ⟨x, y, rfl, RelL.monoC L a _ ha.1 h1, RelL.monoC L b _ ha.2 h2⟩
  | .iface t x, v, ha, h => by
    simp only [Rel, V.all] at *
    obtain ⟨u, rfl, h1⟩ := h
    exact ⟨u, rfl, Rel.monoC L x u ha h1⟩
  | .map i, v, ha, h => by
    simp only [Rel, V.all] at *
    obtain ⟨b, hm, rfl⟩ := h
    exact ⟨b, L.mp i ha _ hm (by simp), rfl⟩
theorem RelL.monoC {p : Nat → Bool} {E E' : Env} (L : Env.LeC p E E') : ∀ (xs : List V) (vs : List Value), V.allL p xs = true → RelL E xs vs → RelL E' xs vs
  | [], vs, _, h => by simpa only [RelL] using h
  | c :: cs, vs, ha, h => by
    simp only [RelL, V.allL, Bool.and_eq_true] at *
    obtain ⟨u, us, rfl, h1, h2⟩ := h
    exact ⟨u, us, rfl, Rel.monoC L c u ha.1 h1, RelL.monoC L cs us ha.2 h2⟩
theorem RelCells.monoC {p : Nat → Bool} {E E' : Env} (L : Env.LeC p E E') : ∀ (xs : List V) (ad : Addr) (k : Nat), V.allL p xs = true → ¬ E.bad ad.block → ad.block < E.w.heap.size → RelCells E ad k xs → RelCells E' ad k xs
  | [], _, _, _, _, _, _ => by simp only [RelCells]
  | c :: cs, ad, k, ha, hb, hlt, h => by
    simp only [RelCells, V.allL, Bool.and_eq_true] at *
    obtain ⟨⟨u, hc, h1⟩, h2⟩ := h
    exact ⟨⟨u, L.ck _ u (by rwa [add_block]) (by rwa [add_block]) hc, Rel.monoC L c u ha.1 h1⟩, RelCells.monoC L cs ad (k + 1) ha.2 hb hlt h2⟩
theorem RelRows.monoC {p : Nat → Bool} {E E' : Env} (L : Env.LeC p E E') : ∀ (xs : List (List V)) (ad : Addr) (sz k : Nat), V.allR p xs = true → ¬ E.bad ad.block → ad.block < E.w.heap.size → RelRows E ad sz k xs → RelRows E' ad sz k xs
  | [], _, _, _, _, _, _, _ => by simp only [RelRows]
  | r :: rs, ad, sz, k, ha, hb, hlt, h => by
    simp only [RelRows, V.allR, Bool.and_eq_true] at *
    exact ⟨h.1, RelCells.monoC L r ad k ha.1 hb hlt h.2.1, RelRows.monoC L rs ad sz (k + sz) ha.2 hb hlt h.2.2⟩
end

theorem Rel.mono {p : Nat → Bool} {E E' : Env} (L : Env.Le p E E') (x : V) (v : Value) (h1 : x.all p = true) (h2 : Rel E x v) : Rel E' x v := Rel.monoC L.c x v h1 h2
theorem RelL.mono {p : Nat → Bool} {E E' : Env} (L : Env.Le p E E') (xs : List V) (vs : List Value) (h1 : V.allL p xs = true) (h2 : RelL E xs vs) : RelL E' xs vs := RelL.monoC L.c xs vs h1 h2
theorem RelRows.mono {p : Nat → Bool} {E E' : Env} (L : Env.Le p E E') (xs : List (List V)) (ad : Addr) (sz k : Nat) (h1 : V.allR p xs = true) (h2 : ¬ E.bad ad.block) (h3 : ad.block < E.w.heap.size) (h4 : RelRows E ad sz k xs) : RelRows E' ad sz k xs := RelRows.monoC L.c xs ad sz k h1 h2 h3 h4

mutual
theorem V.all_true : ∀ (x : V), x.all (fun _ => true) = true
  | .bool _ | .int _ _ | .str _ | .nil | .nilptr | .nilfn | .nilif | .undef => by simp only [V.all]
  | .sl _ rows => by simp only [V.all]; exact V.allR_true rows
  | .agg cs | .tup cs | .ro cs => by simp only [V.all]; exact V.allL_true cs
  | .ptr _ _ | .arr _ _ | .aptr _ _ _ _ | .map _ | .arrd _ _ _ | .qptr _ _ _ _ | .yield _ => by simp only [V.all]
  | .fn _ a b => by simp only [V.all, V.allL_true a, V.allL_true b, Bool.and_self]
  | .iface _ v => by simp only [V.all]; exact V.all_true v
theorem V.allL_true : ∀ (xs : List V), V.allL (fun _ => true) xs = true
  | [] => by simp only [V.allL]
  | c :: cs => by simp only [V.allL, V.all_true c, V.allL_true cs, Bool.and_self]
theorem V.allR_true : ∀ (xs : List (List V)), V.allR (fun _ => true) xs = true
  | [] => by simp only [V.allR]
  | c :: cs => by simp only [V.allR, V.allL_true c, V.allR_true cs, Bool.and_self]
end
mutual
theorem V.all_imp {p q : Nat → Bool} (hpq : ∀ i, p i = true → q i = true) : ∀ (x : V), x.all p = true → x.all q = true
  | .bool _, _ | .int _ _, _ | .str _, _ | .nil, _ | .nilptr, _ | .nilfn, _ | .nilif, _ | .undef, _ => by simp only [V.all]
  | .sl _ rows, h => by simp only [V.all] at *; exact V.allR_imp hpq rows h
  | .agg cs, h | .tup cs, h | .ro cs, h => by simp only [V.all] at *; exact V.allL_imp hpq cs h
  | .ptr _ _, h | .arr _ _, h | .aptr _ _ _ _, h | .map _, h | .arrd _ _ _, h | .qptr _ _ _ _, h | .yield _, h => by simp only [V.all] at *; exact hpq _ h
  | .fn _ a b, h => by simp only [V.all, Bool.and_eq_true] at *; exact ⟨V.allL_imp hpq a h.1, V.allL_imp hpq b h.2⟩
  | .iface _ v, h => by simp only [V.all] at *; exact V.all_imp hpq v h
theorem V.allL_imp {p q : Nat → Bool} (hpq : ∀ i, p i = true → q i = true) : ∀ (xs : List V), V.allL p xs = true → V.allL q xs = true
  | [], _ => by simp only [V.allL]
  | c :: cs, h => by simp only [V.allL, Bool.and_eq_true] at *; exact ⟨V.all_imp hpq c h.1, V.allL_imp hpq cs h.2⟩
theorem V.allR_imp {p q : Nat → Bool} (hpq : ∀ i, p i = true → q i = true) : ∀ (xs : List (List V)), V.allR p xs = true → V.allR q xs = true
  | [], _ => by simp only [V.allR]
  | c :: cs, h => by simp only [V.allR, Bool.and_eq_true] at *; exact ⟨V.allL_imp hpq c h.1, V.allR_imp hpq cs h.2⟩
end
end Go.Ab
