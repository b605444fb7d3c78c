import Derived.Test.YtahflobpopclpaaAb12
import Derived.CallsIn
namespace Go.Ab
open Go Go.RowKit
set_option linter.unusedVariables false

/-! ### what is kept from an earlier state on -/
structure LeN (E E' : Env) : Prop where
  len : E.h.length ≤ E'.h.length
  le : Env.Le (fun i => decide (i < E.h.length)) E E'
theorem Env.Le.weaken {p q : Nat → Bool} {E E' : Env} (h : Env.Le p E E') (hq : ∀ i, q i = true → p i = true) : Env.Le q E E' :=
  ⟨h.nb, h.wk, h.sz, fun i hi => h.mp i (hq i hi), fun i hi => h.ma i (hq i hi), fun i hi => h.mq i (hq i hi)⟩
theorem Env.Le.refl (p : Nat → Bool) (E : Env) : Env.Le p E E :=
  ⟨fun _ _ h => h, fun _ _ _ => rfl, Nat.le_refl _, fun _ _ _ h _ => h, fun i _ h => ⟨h, fun T sz rows fr ho => ⟨T, rows, fr, ho, Nat.le_refl _, fun _ => rfl⟩⟩, fun i _ T sz rows ho => ⟨rows, ho, Nat.le_refl _, fun _ => rfl⟩⟩
theorem Env.Le.trans {p : Nat → Bool} {A B D : Env} (h : Env.Le p A B) (k : Env.Le p B D) : Env.Le p A D := by
  refine ⟨fun b hb hd => h.nb b hb (k.nb b (Nat.lt_of_lt_of_le hb h.sz) hd), fun b hb hn => ?_, Nat.le_trans h.sz k.sz, fun i hi v hv hs => k.mp i hi v (h.mp i hi v hv hs) hs, fun i hi hl => ?_, fun i hi T sz rows ho => ?_⟩
  · exact (k.wk b (Nat.lt_of_lt_of_le hb h.sz) (fun hb' => hn (h.nb b hb hb'))).trans (h.wk b hb hn)
  · obtain ⟨h1, h2⟩ := h.ma i hi hl
    obtain ⟨h3, h4⟩ := k.ma i hi h1
    refine ⟨h3, fun T sz rows fr ho => ?_⟩
    obtain ⟨T1, rows1, fr1, ho1, hle1, he1⟩ := h4 T sz rows fr ho
    obtain ⟨T2, rows2, fr2, ho2, hle2, he2⟩ := h2 T1 sz rows1 fr1 ho1
    exact ⟨T2, rows2, fr2, ho2, Nat.le_trans hle2 hle1, fun e => by rw [he1 (by omega), he2 (by omega)]⟩
  · obtain ⟨rows1, ho1, hle1, he1⟩ := h.mq i hi T sz rows ho
    obtain ⟨rows2, ho2, hle2, he2⟩ := k.mq i hi T sz rows1 ho1
    exact ⟨rows2, ho2, Nat.le_trans hle1 hle2, fun e => by rw [he2 (by omega), he1 (by omega)]⟩
theorem LeN.refl (E : Env) : LeN E E := ⟨Nat.le_refl _, Env.Le.refl _ _⟩
theorem LeN.trans {A B D : Env} (h : LeN A B) (k : LeN B D) : LeN A D :=
  ⟨Nat.le_trans h.len k.len, h.le.trans (k.le.weaken (fun i hi => by have := h.len; simp at *; omega))⟩
theorem LeN.of {E E' : Env} (hl : E.h.length ≤ E'.h.length) (h : Env.Le (fun _ => true) E E') : LeN E E' := ⟨hl, h.weaken (fun _ _ => rfl)⟩
theorem le_world {C : Ctx} {h : List AObj} {m : List Value} {w w1 : World} (hb : Below w.heap.size w w1) : Env.Le (fun _ => true) (env C h m w) (env C h m w1) :=
  ⟨fun b _ h => h, fun b hb' _ => hb.block b hb', hb.size, fun i _ v h _ => h, fun i _ h => ⟨h, fun T sz rows fr ho => ⟨T, rows, fr, ho, Nat.le_refl _, fun _ => rfl⟩⟩, fun i _ T sz rows ho => ⟨rows, ho, Nat.le_refl _, fun _ => rfl⟩⟩
mutual
theorem Rel.ids {E : Env} {N : Nat} (hm : E.m.length ≤ N) (hh : E.h.length ≤ N) : ∀ (x : V) (u : Value), Rel E x u → x.all (fun i => decide (i < N)) = true
  | .bool _, _, _ | .int _ _, _, _ | .str _, _, _ | .nil, _, _ | .nilptr, _, _ | .nilfn, _, _ | .nilif, _, _ | .undef, _, _ => by simp only [V.all]
  | .sl sz rows, u, h => by
    simp only [Rel, V.all] at *
    obtain ⟨A, c, rfl, _, h⟩ := h
    rcases h with rfl | ⟨ad, _, _, _, h⟩
    · simp only [V.allR]
    · exact RelRows.ids hm hh rows h
  | .agg cs, u, h => by simp only [Rel, V.all] at *; obtain ⟨vs, _, h⟩ := h; exact RelL.ids hm hh cs h
  | .tup cs, u, h => by simp only [Rel, V.all] at *; obtain ⟨vs, _, h⟩ := h; exact RelL.ids hm hh cs h
  | .ro cs, u, h => by simp only [Rel, V.all] at *; obtain ⟨ad, _, _, _, h⟩ := h; exact RelCells.ids hm hh cs h
  | .ptr i off, u, h => by
    simp only [Rel, V.all] at *
    obtain ⟨b, h, _⟩ := h
    have := (List.getElem?_eq_some_iff.1 h).1
    simp; omega
  | .arr i n, u, h => by simp only [Rel, V.all] at *; have := h.1; simp; omega
  | .aptr i n r o, u, h => by simp only [Rel, V.all] at *; have := h.1; simp; omega
  | .arrd i n k, u, h => by simp only [Rel, V.all] at *; obtain ⟨_, _, _, h, _⟩ := h; have := (List.getElem?_eq_some_iff.1 h).1; simp; omega
  | .qptr i n r o, u, h => by simp only [Rel, V.all] at *; obtain ⟨_, _, _, h, _⟩ := h; have := (List.getElem?_eq_some_iff.1 h).1; simp; omega
  | .yield i, u, h => by
    simp only [Rel, V.all] at *
    obtain ⟨b, h, _⟩ := h
    have := (List.getElem?_eq_some_iff.1 h).1
    simp; omega
  | .fn f a b, u, h => by simp only [Rel, V.all, Bool.and_eq_true] at *; obtain ⟨x, y, _, h1, h2⟩ := h; exact ⟨RelL.ids hm hh a h1, RelL.ids hm hh b h2⟩
  | .iface t x, u, h => by simp only [Rel, V.all] at *; obtain ⟨y, _, h⟩ := h; exact Rel.ids hm hh x y h
  | .map i, u, h => by
    simp only [Rel, V.all] at *
    obtain ⟨b, h, _⟩ := h
    have := (List.getElem?_eq_some_iff.1 h).1
    simp; omega
theorem RelL.ids {E : Env} {N : Nat} (hm : E.m.length ≤ N) (hh : E.h.length ≤ N) : ∀ (xs : List V) {us : List Value}, RelL E xs us → V.allL (fun i => decide (i < N)) xs = true
  | [], _, _ => by simp only [V.allL]
  | c :: cs, us, h => by simp only [RelL, V.allL, Bool.and_eq_true] at *; obtain ⟨u, us', _, h1, h2⟩ := h; exact ⟨Rel.ids hm hh c u h1, RelL.ids hm hh cs h2⟩
theorem RelCells.ids {E : Env} {N : Nat} (hm : E.m.length ≤ N) (hh : E.h.length ≤ N) : ∀ (xs : List V) {ad : Addr} {k : Nat}, RelCells E ad k xs → V.allL (fun i => decide (i < N)) xs = true
  | [], _, _, _ => by simp only [V.allL]
  | c :: cs, ad, k, h => by simp only [RelCells, V.allL, Bool.and_eq_true] at *; obtain ⟨⟨u, _, h1⟩, h2⟩ := h; exact ⟨Rel.ids hm hh c u h1, RelCells.ids hm hh cs h2⟩
theorem RelRows.ids {E : Env} {N : Nat} (hm : E.m.length ≤ N) (hh : E.h.length ≤ N) : ∀ (xs : List (List V)) {ad : Addr} {sz k : Nat}, RelRows E ad sz k xs → V.allR (fun i => decide (i < N)) xs = true
  | [], _, _, _, _ => by simp only [V.allR]
  | r :: rs, ad, sz, k, h => by simp only [RelRows, V.allR, Bool.and_eq_true] at *; exact ⟨RelCells.ids hm hh r h.2.1, RelRows.ids hm hh rs h.2.2⟩
end
theorem RelL.leN {E E' : Env} (L : LeN E E') (hm : E.m.length ≤ E.h.length) {xs : List V} {us : List Value} (h : RelL E xs us) : RelL E' xs us :=
  RelL.mono L.le xs us (RelL.ids hm (Nat.le_refl _) xs h) h
theorem Rel.leN {E E' : Env} (L : LeN E E') (hm : E.m.length ≤ E.h.length) {x : V} {u : Value} (h : Rel E x u) : Rel E' x u :=
  Rel.mono L.le x u (Rel.ids hm (Nat.le_refl _) x u h) h
end Go.Ab
