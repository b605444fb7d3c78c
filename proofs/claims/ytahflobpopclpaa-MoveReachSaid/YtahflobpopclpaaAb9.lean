import Derived.Test.YtahflobpopclpaaAb8
import Derived.ArgAppend
namespace Go.Ab
open Go Go.RowKit
set_option linter.unusedVariables false

theorem flatten_replicate_one {α : Type} (x : α) : ∀ n, (List.replicate n [x]).flatten = List.replicate n x
  | 0 => rfl
  | n + 1 => by simp [List.replicate_succ, flatten_replicate_one x n]
theorem RelL.replicate {E : Env} {x : V} {u : Value} (h : Rel E x u) : ∀ n, RelL E (List.replicate n x) (List.replicate n u)
  | 0 => by simp only [List.replicate_zero, RelL]
  | n + 1 => by simp only [List.replicate_succ, RelL]; exact ⟨u, _, rfl, h, RelL.replicate h n⟩
def zero1 (P : Program) (T : TypeId) : Option V :=
  match P.info? T with
  | some i => match i.zero with
    | some z => ofCell z
    | none => none
  | none => none
theorem zero1_info {P : Program} {E : Env} {T : TypeId} {x : V} (h : zero1 P T = some x) : ∃ it z, P.info? T = some it ∧ it.zero = some z ∧ Rel E x z ∧ z.cells = #[z] := by
  unfold zero1 at h
  split at h
  · rename_i i hi
    split at h
    · rename_i z hz
      exact ⟨i, z, hi, hz, ofCell_sound h, ofCell_cells h⟩
    · cases h
  · cases h
def makeV (P : Program) (h : List AObj) (T : TypeId) (n : V) : Option (V × List AObj) :=
  match elemT P T, n with
  | some (E, 1), .int .i64 k => match zero1 P E with
    | some z => if 0 ≤ k ∧ P.bytesOf E * k.toNat ≤ 281474976710656 ∧ k.toNat ≤ 9223372036854775807 then some (.arr h.length k.toNat, h ++ [.arr E 1 (List.replicate k.toNat [z]) false]) else none
    | _ => none
  | _, _ => none
theorem makeV_sound {P : Program} {C : Ctx} {s : St} {m : List Value} {a : Act} {w : World} (S : Sim C s m a w) {T : TypeId} {x y : V} {u : Value} {h' : List AObj} (hx : Rel (env C s.h m w) x u) (hb : makeV P s.h T x = some (y, h')) :
    ∃ u' m' w', (Instr.makeSlice T u u).run P w = .ok u' w' ∧ Sim C ⟨s.t, h'⟩ m' a w' ∧ Rel (env C h' m' w') y u' ∧ Up (env C s.h m w) (env C h' m' w') := by
  unfold makeV at hb
  split at hb
  case h_2 => cases hb
  rename_i E k he
  obtain ⟨hu, hsz, hnz⟩ := elemT_spec he
  split at hb
  case h_2 => cases hb
  rename_i z hz
  split at hb
  case isFalse => cases hb
  rename_i hc
  simp only [Option.some.injEq, Prod.mk.injEq] at hb
  obtain ⟨rfl, rfl⟩ := hb
  simp only [Rel] at hx; subst hx
  obtain ⟨it, zv, hi, hzv, hr, hcells⟩ := zero1_info (E := env C s.h m w) hz
  have hsize : it.size = 1 := by
    unfold Program.cellsOf at hsz
    simpa [hi] using hsz
  have hbytes : it.bytes = P.bytesOf E := by simp [Program.bytesOf, hi]
  have hk : (k.toNat : Int) = k := by omega
  have hrun := run_make_row (P := P) T E it zv hu hi hzv hsize hcells .i64 .i64 k.toNat (by rw [hbytes]; exact hc.2.1) hc.2.2 w
  rw [hk] at hrun
  have hown := World.ownsRow_lit (base := C.w0.heap.size) (e := E) (size := 1) w (madeCells #[zv] k.toNat) k.toNat S.below.size (by unfold maxLen; exact hc.2.2) (by simp [size_madeCells])
  have hml : (madeCells #[zv] k.toNat).toList = List.replicate k.toNat zv := by
    apply List.ext_getElem
    · simp [madeCells]
    · intro i h1 h2
      simp [madeCells, Nat.mod_one]
  obtain ⟨h1, L⟩ := S.add (o := .arr E 1 (List.replicate k.toNat [z]) false) (v := .slice (some ⟨w.heap.size, 0, none⟩) k.toNat k.toNat) (below_alloc' w (.cells (madeCells #[zv] k.toNat) E))
    (fun b hb => by simp only [blk, Option.some.injEq] at hb; subst hb; exact ⟨Nat.le_refl _, by rw [size_alloc']; omega⟩)
    (fun L => ⟨(madeCells #[zv] k.toNat).toList, by simpa [env] using hown, by rw [flatten_replicate_one, hml]; exact RelL.replicate (hr.le L) _, fun r hr => by rw [List.eq_of_mem_replicate hr]; rfl⟩)
  refine ⟨_, _, _, hrun, h1, ?_, L⟩
  simp only [Rel, env]
  refine ⟨by simp, fun T0 sz rows fr ho => ?_⟩
  simp at ho
  obtain ⟨rfl, rfl, rfl, rfl⟩ := ho
  exact ⟨by simp, fun _ => by rw [← S.len]; simp⟩
theorem RelRows.values {E : Env} {ad : Addr} {sz : Nat} : ∀ {rows : List (List V)} {k : Nat}, RelRows E ad sz k rows → ∃ vs, RelL E rows.flatten vs ∧ vs.length = rows.length * sz ∧ ∀ j v, vs[j]? = some v → E.w.cell? (ad.add (k + j)) = some v
  | [], k, _ => ⟨[], by simp [RelL], by simp, by simp⟩
  | r :: rs, k, h => by
    simp only [RelRows] at h
    obtain ⟨h0, h1, h2⟩ := h
    obtain ⟨vs, hv, hc⟩ := RelCells.values h1
    obtain ⟨us, hu, hl, hcu⟩ := RelRows.values h2
    have hvl := hv.length
    refine ⟨vs ++ us, by simpa using hv.append hu, by simp [hl, Nat.succ_mul]; omega, fun j v hj => ?_⟩
    rcases Nat.lt_or_ge j vs.length with hlt | hge
    · rw [List.getElem?_append_left hlt] at hj; exact hc j v hj
    · rw [List.getElem?_append_right hge] at hj
      have := hcu _ v hj
      rwa [show k + sz + (j - vs.length) = k + j by omega] at this
theorem RelRows.lens {E : Env} {ad : Addr} {sz : Nat} : ∀ {rows : List (List V)} {k : Nat}, RelRows E ad sz k rows → ∀ r ∈ rows, r.length = sz
  | [], k, _ => by simp
  | r :: rs, k, h => by
    simp only [RelRows] at h
    intro x hx
    simp at hx
    rcases hx with rfl | hx
    · exact h.1
    · exact RelRows.lens h.2.2 x hx
def srcRows (h : List AObj) (sz : Nat) : V → Option (List (List V))
  | .nil => some []
  | .sl sz' rows => if sz' = sz then some rows else none
  | .arr i n => match h[i]? with
    | some (.arr _ sz' rows _) => if n = rows.length ∧ sz' = sz then some rows else none
    | _ => none
  | _ => none
theorem srcRows_sound {C : Ctx} {s : St} {m : List Value} {a : Act} {w : World} (S : Sim C s m a w) {sz : Nat} {x : V} {u : Value} {rows : List (List V)} (hx : Rel (env C s.h m w) x u) (hs : srcRows s.h sz x = some rows) :
    ∃ A c, u = .slice A rows.length c ∧ rows.length ≤ 9223372036854775807 ∧ (∀ r ∈ rows, r.length = sz) ∧ (rows = [] ∨ ∃ ad news, A = some ad ∧ RelL (env C s.h m w) rows.flatten news ∧ news.length = rows.length * sz ∧ ∀ j v, news[j]? = some v → w.cell? (ad.add j) = some v) := by
  cases x with
  | nil =>
    simp only [srcRows, Option.some.injEq] at hs; subst hs
    simp only [Rel] at hx
    exact ⟨none, 0, hx, by simp, by simp, .inl rfl⟩
  | sl sz' rows' =>
    simp only [srcRows] at hs
    split at hs
    · rename_i he; subst he
      simp only [Option.some.injEq] at hs; subst hs
      simp only [Rel] at hx
      obtain ⟨A, c, rfl, hl, h⟩ := hx
      rcases h with h | ⟨ad, rfl, _, _, hR⟩
      · exact ⟨A, c, rfl, hl.2, by simp [h], .inl h⟩
      · refine ⟨_, c, rfl, hl.2, RelRows.lens hR, ?_⟩
        obtain ⟨vs, h1, h2, h3⟩ := RelRows.values hR
        exact .inr ⟨ad, vs, rfl, h1, h2, fun j v hj => by simpa [env] using h3 j v hj⟩
    · cases hs
  | arr i n =>
    simp only [srcRows] at hs
    split at hs
    · rename_i T sz' rows' fr ho
      split at hs
      · rename_i hc
        obtain ⟨hn, rfl⟩ := hc
        simp only [Option.some.injEq] at hs; subst hs
        obtain ⟨_, _, _, _, us, ho', _, hm, hown, hR, hsz⟩ := cur_arr S hx (by simp [cur, ho, hn])
        rw [ho] at ho'; cases ho'
        obtain ⟨A, c, rfl, _, hl, _, hg⟩ := owns_shape hown
        refine ⟨A, c, rfl, hl, hsz, ?_⟩
        rcases rows' with _ | ⟨r, rs⟩
        · exact .inl rfl
        · obtain ⟨g, rfl⟩ := hg (by simp)
          exact .inr ⟨_, us, rfl, hR, hown.1, hown.cells (g := g) rfl⟩
      · cases hs
    · cases hs
  | _ => simp [srcRows] at hs
def appendV (P : Program) (h : List AObj) (T : TypeId) (x y : V) : Option (V × List AObj) :=
  match elemT P T with
  | some (E, sz) => match srcRows h sz y, zeroV P E with
    | some rows, some zs =>
      if zs.length = sz ∧ 0 < P.bytesOf E ∧ rows.flatten.all (V.one h) then
        match rows with
        | [] => match x with
          | .nil => some (.nil, h)
          | .arr i n => match h[i]? with
            | some (.arr E' sz' old false) => if E' = E ∧ sz' = sz ∧ n = old.length then some (.arr i n, h) else none
            | _ => none
          | _ => none
        | rows => match x with
          | .nil => if rows.length * P.bytesOf E ≤ 140737488355328 then some (.arr h.length rows.length, h ++ [.arr E sz rows false]) else none
          | .arr i n => match h[i]? with
            | some (.arr E' sz' old false) => if E' = E ∧ sz' = sz ∧ n = old.length ∧ (old.length + rows.length) * P.bytesOf E ≤ 140737488355328 then
                some (.arr i (n + rows.length), h.set i (.arr E sz (old ++ rows) false)) else none
            | _ => none
          | _ => none
      else none
    | _, _ => none
  | none => none
theorem run_append_zero {P : Program} {w : World} {base : Nat} {t ty e : TypeId} {i : TypeInfo} {size : Nat} (ht : P.underlying t = some (.slice e)) (hi : P.info? e = some i)
    {v : Value} {n : Nat} {xs : List Value} (hown : w.ownsRow base e size v n xs) (A : Option Addr) (c : Nat) :
    (Builtin.append_ #[t, t] ty #[v, .slice A 0 c]).run P w = .ok v w := by
  rcases hown.2 with ⟨rfl, rfl⟩ | ⟨g, cap, cur, rfl, _, _, hnc, _⟩
  · cases A <;> simp [Builtin.append_, run_underlying ht, sizeOf, typeInfo, hi, Builtin.lenOf, Builtin.firstCells, loadCells, loadCellsFrom]
  · cases A <;> simp [Builtin.append_, run_underlying ht, sizeOf, typeInfo, hi, Builtin.lenOf, Builtin.firstCells, loadCells, loadCellsFrom, hnc, storeCells]
theorem ownBlock_blk {w : World} {B : Nat} {T sz n : Nat} {u : Value} {us : List Value} (h : w.ownsRow B T sz u n us) : u.ownBlock = blk u := by
  obtain ⟨A, c, rfl, _⟩ := owns_shape h
  cases A <;> rfl
theorem own_lt' {w : World} {B : Nat} {T sz n : Nat} {u : Value} {us : List Value} (h : w.ownsRow B T sz u n us) {b : Nat} (hb : blk u = some b) : b < w.heap.size := by
  rcases h.2 with ⟨rfl, _⟩ | ⟨g, cap, cur, rfl, _, hh, _⟩
  · simp [blk] at hb
  · simp [blk] at hb; subst hb; exact cells_lt hh
theorem own_ge {w : World} {B : Nat} {T sz n : Nat} {u : Value} {us : List Value} (h : w.ownsRow B T sz u n us) {b : Nat} (hb : blk u = some b) : B ≤ b := by
  rcases h.2 with ⟨rfl, _⟩ | ⟨g, cap, cur, rfl, hg, hh, _⟩
  · simp [blk] at hb
  · simp [blk] at hb; subst hb; exact hg
theorem own_mono {w : World} {B B' : Nat} {T sz n : Nat} {u : Value} {us : List Value} (h : w.ownsRow B T sz u n us) (hb : B' ≤ B) : w.ownsRow B' T sz u n us := by
  refine ⟨h.1, ?_⟩
  rcases h.2 with h2 | ⟨g, cap, cur, h1, hg, h2⟩
  · exact .inl h2
  · exact .inr ⟨g, cap, cur, h1, Nat.le_trans hb hg, h2⟩
theorem own_pos {w : World} {B : Nat} {T sz n : Nat} {u : Value} {us : List Value} (h : w.ownsRow B T sz u n us) (hn : 0 < n) : ∃ b, blk u = some b := by
  rcases h.2 with ⟨rfl, h0⟩ | ⟨g, cap, cur, rfl, _⟩
  · omega
  · exact ⟨g, rfl⟩
theorem appendV_sound {P : Program} {C : Ctx} {s : St} {m : List Value} {a : Act} {w : World} (S : Sim C s m a w) {T ty : TypeId} {x y z : V} {ux uy : Value} {h' : List AObj} (hx : Rel (env C s.h m w) x ux) (hy : Rel (env C s.h m w) y uy)
    (hb : appendV P s.h T x y = some (z, h')) :
    ∃ u' m' w', (Builtin.append_ #[T, T] ty #[ux, uy]).run P w = .ok u' w' ∧ Sim C ⟨s.t, h'⟩ m' a w' ∧ Rel (env C h' m' w') z u' ∧ Up (env C s.h m w) (env C h' m' w') := by
  unfold appendV at hb
  split at hb
  case h_2 => cases hb
  rename_i E sz he
  obtain ⟨hu, hsz, hnz⟩ := elemT_spec he
  split at hb
  case h_2 => cases hb
  rename_i rows zs hsrc hz
  split at hb
  case isFalse => cases hb
  rename_i hc
  obtain ⟨hzl, hbp, hall⟩ := hc
  obtain ⟨A, c, rfl, hlen, hrl, hsr⟩ := srcRows_sound S hy hsrc
  obtain ⟨it, zv, hi, hzv, hR⟩ := zeroV_info (E := env C s.h m w) hz
  have hzsz : zv.cells.size = sz := by have := hR.length; simp at this; omega
  have hsize : it.size = sz := by unfold Program.cellsOf at hsz; simpa [hi] using hsz
  have hbytes : it.bytes = P.bytesOf E := by simp [Program.bytesOf, hi]
  rw [← hbytes] at hbp hb
  split at hb
  · -- nothing is appended
    split at hb
    · simp only [Option.some.injEq, Prod.mk.injEq] at hb
      obtain ⟨rfl, rfl⟩ := hb
      simp only [Rel] at hx; subst hx
      exact ⟨_, m, w, run_append_zero hu hi (World.ownsRow_nil w 0 E 1) A c, S, by simp only [Rel], Up.refl _⟩
    · rename_i i n
      split at hb
      · rename_i E' sz' old ho
        split at hb
        · rename_i hcc
          obtain ⟨rfl, rfl, hn⟩ := hcc
          simp only [Option.some.injEq, Prod.mk.injEq] at hb
          obtain ⟨rfl, rfl⟩ := hb
          obtain ⟨_, _, _, _, us, ho', _, hm, hown, _, _⟩ := cur_arr S hx (by simp [cur, ho, hn])
          rw [ho] at ho'; cases ho'
          exact ⟨_, m, w, run_append_zero hu hi hown A c, S, hx, Up.refl _⟩
        · cases hb
      · cases hb
    · cases hb
  · rename_i rows' hne
    rcases hsr with hsr | ⟨ad, news, rfl, hRn, hnl, hcell⟩
    · exact absurd hsr (by intro e; exact hne e)
    have hpos : 0 < rows.length := Nat.pos_of_ne_zero (fun e => hne (List.eq_nil_of_length_eq_zero e))
    have hone := RelL.one S hRn hall
    have hbig : ∀ n, n * it.bytes ≤ 140737488355328 → n ≤ maxLen := fun n hn => by
      have : n * 1 ≤ n * it.bytes := Nat.mul_le_mul_left n hbp
      unfold maxLen; omega
    split at hb
    · split at hb
      case isFalse => cases hb
      rename_i hlim
      simp only [Option.some.injEq, Prod.mk.injEq] at hb
      obtain ⟨rfl, rfl⟩ := hb
      simp only [Rel] at hx; subst hx
      obtain ⟨v', w', hrun, hown, hg, _, hat⟩ := run_append_own_at (P := P) w C.w0.heap.size T ty E it zv sz it.bytes hu hi hzv hsize rfl hzsz (by omega) (.slice none 0 0) 0 [] (World.ownsRow_nil w _ E sz) ad rows.length c news hnl hcell hone
        (by rw [Nat.zero_add]; exact hbig _ hlim) (by rw [Nat.zero_add]; exact hlim) S.below.size
      rw [Nat.zero_add, List.nil_append] at hown
      have hg' : w.grownBy w' none := hg
      have hbel : Below w.heap.size w w' := (Below.refl _ _).grown hg' (Nat.le_refl _) (by simp)
      obtain ⟨b, hb⟩ := own_pos hown hpos
      have hbw : b = w.heap.size := by
        rw [ownBlock_blk hown, hb] at hat
        rcases hat with hat | hat
        · cases hat
        · simpa using hat
      obtain ⟨h1, L⟩ := S.add (o := .arr E sz rows false) (v := v') hbel (fun b' hb' => by rw [hb] at hb'; cases hb'; exact ⟨by omega, own_lt' hown hb⟩)
        (fun L => ⟨news, by simpa [env] using hown, hRn.le L, hrl⟩)
      refine ⟨v', _, w', hrun, h1, ?_, L⟩
      simp only [Rel, env]
      refine ⟨by simp, fun T0 sz0 rows0 fr ho => ?_⟩
      simp at ho
      obtain ⟨rfl, rfl, rfl, rfl⟩ := ho
      exact ⟨Nat.le_refl _, fun _ => by rw [← S.len]; simp⟩
    · rename_i i n
      split at hb
      · rename_i E' sz' old ho
        split at hb
        · rename_i hcc
          obtain ⟨rfl, rfl, hn, hlim⟩ := hcc
          simp only [Option.some.injEq, Prod.mk.injEq] at hb
          obtain ⟨rfl, rfl⟩ := hb
          obtain ⟨_, _, _, _, us, ho', _, hm, hown, hRo, hsz0⟩ := cur_arr S hx (by simp [cur, ho, hn])
          rw [ho] at ho'; cases ho'
          obtain ⟨v', w', hrun, hown', hg, _, hat⟩ := run_append_own_at (P := P) w C.w0.heap.size T ty E' it zv sz' it.bytes hu hi hzv hsize rfl hzsz (by omega) ux old.length us hown ad rows.length c news hnl hcell hone
            (hbig _ hlim) hlim S.below.size
          rw [ownBlock_blk hown] at hg
          have hlt : i < s.h.length := (List.getElem?_eq_some_iff.1 ho).1
          have hlm : i < m.length := (List.getElem?_eq_some_iff.1 hm).1
          obtain ⟨h1, L⟩ := S.turn (o' := .arr E' sz' (old ++ rows) false) (v' := v') ho hm rfl (.inr (.inl ⟨E', sz', old, _, false, false, rfl, rfl, by simp, fun e => by rw [List.length_append] at e; omega⟩)) hg
            (by
              rw [ownBlock_blk hown', ownBlock_blk hown] at hat
              rcases hat with hat | hat
              · exact .inl hat
              · exact .inr (fun b hb => by rw [hb] at hat; cases hat; exact ⟨Nat.le_refl _, own_lt' hown' hb⟩))
            (fun L => ⟨us ++ news, by simpa [env] using hown', by rw [List.flatten_append]; exact (hRo.le L).append (hRn.le L), fun r hr => by
              rcases List.mem_append.1 hr with hr | hr
              · exact hsz0 r hr
              · exact hrl r hr⟩)
          refine ⟨v', _, w', hrun, h1, ?_, L⟩
          simp only [Rel, env]
          refine ⟨by simpa using hlt, fun T0 sz0 rows0 fr ho0 => ?_⟩
          rw [List.getElem?_set_self hlt] at ho0
          cases ho0
          exact ⟨by simp [hn], fun _ => by rw [List.getElem?_set_self hlm]⟩
        · cases hb
      · cases hb
    · cases hb

/-! ### rows that are drawn from their head, and grow at their end -/
theorem run_append_room_off {P : Program} (w : World) (t ty e : TypeId) (i : TypeInfo) (ht : P.underlying t = some (.slice e)) (hi : P.info? e = some i)
    (g d sLen sCap : Nat) (cur : Array Value) (hg : w.heap[g]? = some (.cells cur e (0, 0)))
    (a : Addr) (m c : Nat) (news : List Value) (hl : news.length = m * i.size) (hnews : ∀ j u, news[j]? = some u → w.cell? (a.add j) = some u) (h1 : ∀ u ∈ news, u.oneCell' = true)
    (hroom : sLen + m ≤ sCap) (hfit : (d + sLen) * i.size + news.length ≤ cur.size) :
    (Builtin.append_ #[t, t] ty #[.slice (some ⟨g, d * i.size, none⟩) sLen sCap, .slice (some a) m c]).run P w =
      .ok (.slice (some ⟨g, d * i.size, none⟩) (sLen + m) sCap) (w.setRow g (cur.toList.take ((d + sLen) * i.size) ++ news ++ cur.toList.drop ((d + sLen) * i.size + news.length)).toArray) := by
  have hf := run_firstCells_some (P := P) w i.size m a m c news hl hnews
  have hst := run_storeCells_at P g ((d + sLen) * i.size) e news 0 cur w hg (by simpa using hfit) h1
  simp only [Nat.add_zero, Nat.add_mul] at hst
  simp [Builtin.append_, run_underlying ht, sizeOf, typeInfo, hi, Builtin.lenOf, hroom, hf, Addr.add_lit, hst, Nat.add_mul]
theorem ownsRow_grown {w : World} {B : Nat} {T sz g c : Nat} {n m : Nat} {us news : List Value} {cur : Array Value} (h0 : us.length = n * sz) (hB : B ≤ g) (hh : w.heap[g]? = some (.cells cur T (0, 0))) (hcap : c ≤ maxLen) (hcur : cur.size = c * sz)
    (htake : cur.toList.take (n * sz) = us) (hl : news.length = m * sz) (hroom : n + m ≤ c) :
    (w.setRow g (cur.toList.take (n * sz) ++ news ++ cur.toList.drop (n * sz + news.length)).toArray).ownsRow B T sz (.slice (some ⟨g, 0, none⟩) (n + m) c) (n + m) (us ++ news) := by
  have e1 : (cur.toList.take (n * sz)).length = n * sz := by rw [htake]; exact h0
  have hle : (n + m) * sz ≤ c * sz := Nat.mul_le_mul_right _ hroom
  rw [Nat.add_mul] at hle
  have hs : cur.toList.length = c * sz := by simpa using hcur
  refine ⟨by rw [List.length_append, h0, hl, Nat.add_mul], .inr ⟨g, c, _, rfl, hB, setRow_heap w g cur _ T (0, 0) hh, hroom, hcap, ?_, ?_⟩⟩
  · simp only [List.size_toArray, List.length_append, e1, List.length_drop, hs]
    omega
  · rw [← htake]
    have e2 : (cur.toList.take (n * sz) ++ news).length = (n + m) * sz := by rw [List.length_append, e1, hl, Nat.add_mul]
    simp only
    rw [← e2]
    exact List.take_left
def appendD (P : Program) (h : List AObj) (T : TypeId) (x y : V) : Option (V × List AObj) :=
  match x with
  | .arrd i n k => match elemT P T with
    | some (E, sz) => match srcRows h sz y, zeroV P E, h[i]? with
      | some rows, some zs, some (.que E' sz' old) => if zs.length = sz ∧ 0 < P.bytesOf E ∧ rows.flatten.all (V.one h) ∧ rows ≠ [] ∧ E' = E ∧ sz' = sz ∧ n = old.length ∧ (old.length + rows.length) * P.bytesOf E ≤ 140737488355328 then
          some (.arrd i (n + rows.length) k, h.set i (.que E sz (old ++ rows))) else none
      | _, _, _ => none
    | none => none
  | x => appendV P h T x y
theorem appendD_sound {P : Program} {C : Ctx} {s : St} {m : List Value} {a : Act} {w : World} (S : Sim C s m a w) {T ty : TypeId} {x y z : V} {ux uy : Value} {h' : List AObj} (hx : Rel (env C s.h m w) x ux) (hy : Rel (env C s.h m w) y uy)
    (hb : appendD P s.h T x y = some (z, h')) :
    ∃ u' m' w', (Builtin.append_ #[T, T] ty #[ux, uy]).run P w = .ok u' w' ∧ Sim C ⟨s.t, h'⟩ m' a w' ∧ Rel (env C h' m' w') z u' ∧ Up (env C s.h m w) (env C h' m' w') := by
  unfold appendD at hb
  split at hb
  case h_2 => exact appendV_sound S hx hy hb
  rename_i i n k
  split at hb
  case h_2 => cases hb
  rename_i E sz he
  obtain ⟨hu, hsz, hnz⟩ := elemT_spec he
  split at hb
  case h_2 => cases hb
  rename_i rows zs E' sz' old hsrc hz ho
  split at hb
  case isFalse => cases hb
  rename_i hc
  obtain ⟨hzl, hbp, hall, hne, rfl, rfl, hn, hlim⟩ := hc
  simp only [Option.some.injEq, Prod.mk.injEq] at hb
  obtain ⟨rfl, rfl⟩ := hb
  obtain ⟨A, c, rfl, hrlen, hrl, hsr⟩ := srcRows_sound S hy hsrc
  obtain ⟨it, zv, hi, hzv, hR⟩ := zeroV_info (E := env C s.h m w) hz
  have hzsz : zv.cells.size = sz' := by have := hR.length; simp at this; omega
  have hsize : it.size = sz' := by unfold Program.cellsOf at hsz; simpa [hi] using hsz
  have hbytes : it.bytes = P.bytesOf E' := by simp [Program.bytesOf, hi]
  rw [← hbytes] at hbp hlim
  rcases hsr with hsr | ⟨ad, news, rfl, hRn, hnl, hcell⟩
  · exact absurd hsr hne
  have hpos : 0 < rows.length := Nat.pos_of_ne_zero (fun e => hne (List.eq_nil_of_length_eq_zero e))
  have hone := RelL.one S hRn hall
  have hbig : ∀ n, n * it.bytes ≤ 140737488355328 → n ≤ maxLen := fun n hn => by
    have : n * 1 ≤ n * it.bytes := Nat.mul_le_mul_left n hbp
    unfold maxLen; omega
  obtain ⟨T1, sz1, old1, us, A0, c0, j, ho', hn1, hm, hj, hkn, hnc, hown, hRo, hszo, A', rfl, hA⟩ := cur_arrd S hx (by simp [cur, ho, hn])
  rw [ho] at ho'; cases ho'
  have hlt : i < s.h.length := (List.getElem?_eq_some_iff.1 ho).1
  have hlm : i < m.length := (List.getElem?_eq_some_iff.1 hm).1
  have hflat : ∀ d, d ≤ old.length → (old.drop d).flatten ++ rows.flatten = ((old ++ rows).drop d).flatten := fun d hd => by
    rw [List.drop_append_of_le_length hd, List.flatten_append]
  have hall' : ∀ r ∈ old ++ rows, r.length = sz' := fun r hr => by
    rcases List.mem_append.1 hr with hr | hr
    · exact hszo r hr
    · exact hrl r hr
  by_cases hroom : n - k + rows.length ≤ c0 - (k - j)
  · -- there is room
    rcases hA with hA | ⟨g, rfl, rfl⟩
    · omega
    obtain ⟨h0, h1⟩ := hown
    rcases h1 with ⟨he, _⟩ | ⟨g', cap', cr, he, hg, hh, hn', hcap, hcur, htake⟩
    · cases he
    cases he
    have hfit : (k - j + (n - k)) * sz' + news.length ≤ cr.size := by
      rw [hcur, hnl, ← Nat.add_mul]
      exact Nat.mul_le_mul_right _ (by omega)
    have hrun := run_append_room_off (P := P) w T ty E' it hu hi g (k - j) (n - k) (c0 - (k - j)) cr hh ad rows.length c news (by rw [hsize]; exact hnl) hcell hone hroom (by rw [hsize]; exact hfit)
    rw [hsize, show k - j + (n - k) = n - j by omega] at hrun
    have hown2 := ownsRow_grown (n := n - j) (m := rows.length) h0 hg hh hcap hcur htake hnl (by omega)
    obtain ⟨h1, L⟩ := S.turn (o' := .que E' sz' (old ++ rows)) (v' := .slice (some ⟨g, 0, none⟩) (n - j + rows.length) c0) ho hm rfl (.inr (.inr (.inr (.inl ⟨E', sz', old, _, rfl, rfl, by simp, fun e => by rw [List.length_append] at e; omega⟩))))
      (show w.grownBy (w.setRow g (cr.toList.take ((n - j) * sz') ++ news ++ cr.toList.drop ((n - j) * sz' + news.length)).toArray) (some g) from grownBy_setRow _) (.inl rfl)
      (fun L => ⟨us ++ news, j, by rw [List.length_append]; omega, by
        rw [List.length_append, show old.length + rows.length - j = n - j + rows.length by omega]; exact hown2, by
        rw [← hflat j (by omega)]; exact (hRo.le L).append (hRn.le L), hall'⟩)
    refine ⟨_, _, _, hrun, h1, ?_, L⟩
    simp only [Rel, env]
    refine ⟨E', sz', old ++ rows, by rw [List.getElem?_set_self hlt], by rw [List.length_append]; omega, fun _ => ⟨some ⟨g, 0, none⟩, c0, j, by rw [List.getElem?_set_self hlm, show n - j + rows.length = n + rows.length - j by omega], hj, by omega, by omega, some ⟨g, (k - j) * sz', none⟩, by
      rw [show n - k + rows.length = n + rows.length - k by omega], .inr ⟨g, rfl, rfl⟩⟩⟩
  · -- a new row
    have hlim' : (n - k + rows.length) * it.bytes ≤ 140737488355328 := Nat.le_trans (Nat.mul_le_mul_right _ (by omega)) hlim
    have hsub : us.length = (n - j) * sz' := hown.1
    have husd : (us.drop ((k - j) * sz')).length = (n - k) * sz' := by
      rw [List.length_drop, hsub, ← Nat.sub_mul]; congr 1; omega
    have hgrow : ∃ v' w', (Builtin.append_ #[T, T] ty #[.slice A' (n - k) (c0 - (k - j)), .slice (some ad) rows.length c]).run P w = .ok v' w' ∧ w'.ownsRow w.heap.size E' sz' v' (n - k + rows.length) (us.drop ((k - j) * sz') ++ news) ∧ w.grownBy w' none := by
      rcases A' with _ | b
      · rcases hA with hA | ⟨g, _, hA⟩
        · have hnk : n - k = 0 := by omega
          have hck : c0 - (k - j) = 0 := by omega
          obtain ⟨v', w', h1, h2, h3, _, _⟩ := run_append_own_at (P := P) w w.heap.size T ty E' it zv sz' it.bytes hu hi hzv hsize rfl hzsz (by omega) (.slice none 0 0) 0 [] (World.ownsRow_nil w _ E' sz') ad rows.length c news hnl hcell hone
            (by rw [Nat.zero_add]; exact hbig _ (by rw [hnk, Nat.zero_add] at hlim'; exact hlim')) (by rw [hnk] at hlim'; exact hlim') (Nat.le_refl _)
          refine ⟨v', w', by rw [hnk, hck]; exact h1, ?_, h3⟩
          have : us.drop ((k - j) * sz') = [] := List.eq_nil_of_length_eq_zero (by rw [husd, hnk, Nat.zero_mul])
          rw [this, hnk]; exact h2
        · cases hA
      · refine run_append_arg_grows (P := P) w T ty E' it zv sz' it.bytes hu hi hzv hsize rfl hzsz (by omega) b (n - k) (c0 - (k - j)) (us.drop ((k - j) * sz')) husd ?_ ad rows.length c news hnl hcell (by omega) (hbig _ hlim') hlim'
        intro j' u hu'
        rcases hA with hA | ⟨g, rfl, hA⟩
        · exfalso
          have hnk : n - k = 0 := by omega
          have : us.drop ((k - j) * sz') = [] := List.eq_nil_of_length_eq_zero (by rw [husd, hnk, Nat.zero_mul])
          rw [this] at hu'; cases hu'
        · simp only [Option.some.injEq] at hA; subst hA
          have := hown.cells (g := g) rfl ((k - j) * sz' + j') u (by rw [List.getElem?_drop] at hu'; exact hu')
          rw [add_at] at this ⊢
          simpa using this
    obtain ⟨v', w', hrun, hown', hg⟩ := hgrow
    obtain ⟨b, hb⟩ := own_pos hown' (by omega)
    obtain ⟨h1, L⟩ := S.turn (o' := .que E' sz' (old ++ rows)) (v' := v') ho hm rfl (.inr (.inr (.inr (.inl ⟨E', sz', old, _, rfl, rfl, by simp, fun e => by rw [List.length_append] at e; omega⟩))))
      (show w.grownBy w' (blk (.slice A0 (n - j) c0)) from { hg with block := fun k hk _ => hg.block k hk (by simp) }) (.inr (fun b' hb' => by
        have hlow := own_ge hown' hb'
        exact ⟨hlow, own_lt' hown' hb'⟩))
      (fun L => ⟨us.drop ((k - j) * sz') ++ news, k, by rw [List.length_append]; omega, by
        rw [List.length_append, show old.length + rows.length - k = n - k + rows.length by omega]; exact own_mono hown' S.below.size, by
        rw [← hflat k (by omega)]
        refine RelL.append ?_ (hRn.le L)
        have := RelL.drop ((k - j) * sz') (hRo.le L)
        have e : (old.drop j).flatten.drop ((k - j) * sz') = (old.drop k).flatten := by
          have h2 : old.drop j = (old.drop j).take (k - j) ++ old.drop k := by
            have h5 : old.drop k = (old.drop j).drop (k - j) := by rw [List.drop_drop, show j + (k - j) = k by omega]
            rw [h5]
            exact (List.take_append_drop _ _).symm
          have h3 : ((old.drop j).take (k - j)).flatten.length = (k - j) * sz' := by
            rw [flatten_length _ sz' (fun r hr => hszo r (List.mem_of_mem_drop (List.mem_of_mem_take hr))), List.length_take, List.length_drop, Nat.min_eq_left (by omega)]
          rw [h2, List.flatten_append, ← h3, List.drop_left]
        rw [← e]; exact this, hall'⟩)
    refine ⟨_, _, _, hrun, h1, ?_, L⟩
    obtain ⟨A2, c2, rfl, hnc2, _, hA2, hp2⟩ := owns_shape hown'
    obtain ⟨g2, rfl⟩ := hp2 (by omega)
    simp only [Rel, env]
    refine ⟨E', sz', old ++ rows, by rw [List.getElem?_set_self hlt], by rw [List.length_append]; omega, fun _ => ⟨some ⟨g2, 0, none⟩, c2, k, by rw [List.getElem?_set_self hlm, show n - k + rows.length = n + rows.length - k by omega], Nat.le_refl _, by omega, by omega, some ⟨g2, 0, none⟩, by
      rw [show n - k + rows.length = n + rows.length - k by omega, Nat.sub_self, Nat.sub_zero], .inr ⟨g2, rfl, by rw [Nat.sub_self, Nat.zero_mul]⟩⟩⟩
end Go.Ab
