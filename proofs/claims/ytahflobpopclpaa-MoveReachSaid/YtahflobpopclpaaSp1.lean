import Derived.Test.YtahflobpopclpaaAb23
import Derived.Test.YtahflobpopclpaaFx
namespace Go.Ab
open Go Go.RowKit
set_option linter.unusedVariables false
/-! ### towns, as plain data; how they are handed in -/
structure House where
  lot : Int
  wishes : List Int
  school : Bool
structure Town where
  walk : List (List Int)
  reach : Int
  schools : List Int
  gone : List Bool
  houses : List House
  kin : List (Int × Int)
def rI (l : List Int) : List (List V) := l.map fun n => [.int .i64 n]
def rB (l : List Bool) : List (List V) := l.map fun b => [.bool b]
def rL (l : List (List Int)) : List (List V) := l.map fun r => [.sl 1 (rI r)]
def rH (l : List House) : List (List V) := l.map fun h => [.int .i64 h.lot, .sl 1 (rI h.wishes), .bool h.school]
def rP (l : List (Int × Int)) : List (List V) := l.map fun p => [.int .i64 p.1, .int .i64 p.2]
def cT (t : Town) : List V := [.sl 1 (rL t.walk), .int .i64 t.reach, .sl 1 (rI t.schools), .sl 1 (rB t.gone), .sl 3 (rH t.houses), .sl 2 (rP t.kin)]
theorem rI_length (l : List Int) : (rI l).length = l.length := by simp [rI]
theorem rB_length (l : List Bool) : (rB l).length = l.length := by simp [rB]
theorem rL_length (l : List (List Int)) : (rL l).length = l.length := by simp [rL]
theorem rH_length (l : List House) : (rH l).length = l.length := by simp [rH]
theorem rP_length (l : List (Int × Int)) : (rP l).length = l.length := by simp [rP]
theorem rI_get {l : List Int} {k : Nat} (h : k < l.length) : (rI l)[k]? = some [.int .i64 l[k]] := by simp [rI, h]
theorem rB_get {l : List Bool} {k : Nat} (h : k < l.length) : (rB l)[k]? = some [.bool l[k]] := by simp [rB, h]
theorem rL_get {l : List (List Int)} {k : Nat} (h : k < l.length) : (rL l)[k]? = some [.sl 1 (rI l[k])] := by simp [rL, h]
theorem rH_get {l : List House} {k : Nat} (h : k < l.length) : (rH l)[k]? = some [.int .i64 l[k].lot, .sl 1 (rI l[k].wishes), .bool l[k].school] := by simp [rH, h]
theorem rP_get {l : List (Int × Int)} {k : Nat} (h : k < l.length) : (rP l)[k]? = some [.int .i64 l[k].1, .int .i64 l[k].2] := by simp [rP, h]
theorem rI_take (l : List Int) (k : Nat) : (rI l).take k = rI (l.take k) := by simp [rI]
theorem rI_all (p : Nat → Bool) (l : List Int) : V.allR p (rI l) = true := by
  induction l with
  | nil => simp [rI, V.allR]
  | cons n l ih => simp only [rI, List.map_cons, V.allR, V.allL, V.all, Bool.true_and]; exact ih
theorem rB_all (p : Nat → Bool) (l : List Bool) : V.allR p (rB l) = true := by
  induction l with
  | nil => simp [rB, V.allR]
  | cons n l ih => simp only [rB, List.map_cons, V.allR, V.allL, V.all, Bool.true_and]; exact ih
theorem rL_all (p : Nat → Bool) (l : List (List Int)) : V.allR p (rL l) = true := by
  induction l with
  | nil => simp [rL, V.allR]
  | cons n l ih => simp only [rL, List.map_cons, V.allR, V.allL, V.all, rI_all, Bool.true_and]; exact ih
theorem rH_all (p : Nat → Bool) (l : List House) : V.allR p (rH l) = true := by
  induction l with
  | nil => simp [rH, V.allR]
  | cons n l ih => simp only [rH, List.map_cons, V.allR, V.allL, V.all, rI_all, Bool.true_and]; exact ih
theorem rP_all (p : Nat → Bool) (l : List (Int × Int)) : V.allR p (rP l) = true := by
  induction l with
  | nil => simp [rP, V.allR]
  | cons n l ih => simp only [rP, List.map_cons, V.allR, V.allL, V.all, Bool.true_and]; exact ih
theorem rI_nil : ([] : List (List V)) = rI [] := rfl
/-- What fits. -/
theorem rI_fits (l : List Int) : V.fitsR (rI l) ↔ True := by
  induction l with
  | nil => simp [rI, V.fitsR]
  | cons n l ih => simp only [rI, List.map_cons, V.fitsR, V.fitsL, V.fits, true_and]; exact ih
theorem rB_fits (l : List Bool) : V.fitsR (rB l) ↔ True := by
  induction l with
  | nil => simp [rB, V.fitsR]
  | cons n l ih => simp only [rB, List.map_cons, V.fitsR, V.fitsL, V.fits, true_and]; exact ih
theorem rP_fits (l : List (Int × Int)) : V.fitsR (rP l) ↔ True := by
  induction l with
  | nil => simp [rP, V.fitsR]
  | cons n l ih => simp only [rP, List.map_cons, V.fitsR, V.fitsL, V.fits, true_and]; exact ih
theorem rL_fits (l : List (List Int)) : V.fitsR (rL l) ↔ ∀ r ∈ l, r.length ≤ 9223372036854775807 := by
  induction l with
  | nil => simp [rL, V.fitsR]
  | cons n l ih => simp only [rL, List.map_cons, V.fitsR, V.fitsL, V.fits, rI_fits, rI_length, and_true, List.forall_mem_cons]; rw [← ih]; rfl
theorem rH_fits (l : List House) : V.fitsR (rH l) ↔ ∀ r ∈ l, r.wishes.length ≤ 9223372036854775807 := by
  induction l with
  | nil => simp [rH, V.fitsR]
  | cons n l ih => simp only [rH, List.map_cons, V.fitsR, V.fitsL, V.fits, rI_fits, rI_length, and_true, true_and, List.forall_mem_cons]; rw [← ih]; rfl
/-- The lists of a town fit. -/
structure Town.Fits (t : Town) : Prop where
  walk : t.walk.length ≤ 9223372036854775807
  rows : ∀ r ∈ t.walk, r.length ≤ 9223372036854775807
  schools : t.schools.length ≤ 9223372036854775807
  gone : t.gone.length ≤ 9223372036854775807
  houses : t.houses.length ≤ 9223372036854775807
  wishes : ∀ h ∈ t.houses, h.wishes.length ≤ 9223372036854775807
  kin : t.kin.length ≤ 9223372036854775807
theorem cT_fits (t : Town) : V.fitsL (cT t) ↔ t.Fits := by
  simp only [cT, V.fitsL, V.fits, rI_fits, rB_fits, rP_fits, rL_fits, rH_fits, rI_length, rB_length, rL_length, rH_length, rP_length, and_true, true_and]
  constructor
  · rintro ⟨⟨a, b⟩, c, d, ⟨e, f⟩, g⟩; exact ⟨a, b, c, d, e, f, g⟩
  · rintro ⟨a, b, c, d, e, f, g⟩; exact ⟨⟨a, b⟩, c, d, ⟨e, f⟩, g⟩
theorem cT_eq (t : Town) : cT t = [.sl 1 (rL t.walk), .int .i64 t.reach, .sl 1 (rI t.schools), .sl 1 (rB t.gone), .sl 3 (rH t.houses), .sl 2 (rP t.kin)] := rfl
/-! ### what the document says, in plain terms -/
namespace M
def inr (x lo hi : Int) : Bool := decide (lo ≤ x) && decide (x ≤ hi)
def lot (t : Town) (n : Int) : Bool := inr n 0 (t.walk.length - 1)
def house (t : Town) (n : Int) : Bool := inr n 0 (t.houses.length - 1)
/-- The rank of a number in a list. -/
def pos (l : List Int) (n : Int) : Option Nat := l.findIdx? (· == n)
def rank (t : Town) (h : Nat) (n : Int) : Int :=
  match t.houses[h]? with
  | some x => match pos x.wishes n with
    | some i => i
    | none => if x.lot = n then x.wishes.length else -1
  | none => -1
def plan (t : Town) (p : List Int) : Bool := p.all (lot t) && p.length == t.houses.length
def sum (l : List Int) : Int := l.foldl (· + ·) 0
def most (l : List Int) : Int := l.foldl max 0
def before : List Int → List Int → Bool
  | a :: as', b :: bs => if a = b then before as' bs else decide (a < b)
  | _, _ => false
/-- How far it is from a lot to another one. -/
def dist (t : Town) (a b : Int) : Int := (((t.walk[a.toNat]?).getD [])[b.toNat]?).getD 0
def near (t : Town) (a b : Int) : Bool := decide (dist t a b ≤ t.reach)
theorem dist_get {t : Town} {a b : Int} (ha : a.toNat < t.walk.length) (hb : b.toNat < (t.walk[a.toNat]).length) : dist t a b = (t.walk[a.toNat])[b.toNat] := by simp [dist, ha, hb]
theorem sum_go (l : List Int) (n : Int) : l.foldl (· + ·) n = n + sum l := by
  induction l generalizing n with
  | nil => simp [sum]
  | cons x l ih => simp only [sum, List.foldl_cons]; rw [ih, ih (0 + x)]; omega
theorem sum_nil : sum [] = 0 := rfl
theorem sum_cons (x : Int) (l : List Int) : sum (x :: l) = x + sum l := by simp only [sum, List.foldl_cons]; rw [sum_go]; simp [sum]
theorem sum_append (l m : List Int) : sum (l ++ m) = sum l + sum m := by
  induction l with
  | nil => simp [sum_nil]
  | cons x l ih => rw [List.cons_append, sum_cons, sum_cons, ih]; omega
theorem sum_take {l : List Int} {k : Nat} (h : k < l.length) : sum (l.take (k + 1)) = sum (l.take k) + l[k] := by
  rw [List.take_succ_eq_append_getElem h, sum_append, sum_cons, sum_nil]; omega
theorem sum_bound {l : List Int} {b : Int} (hb : ∀ x ∈ l, -b ≤ x ∧ x ≤ b) : -(b * l.length) ≤ sum l ∧ sum l ≤ b * l.length := by
  induction l with
  | nil => simp [sum_nil]
  | cons x l ih =>
    have h1 := ih (fun y hy => hb y (by simp [hy]))
    have h2 := hb x (by simp)
    rw [sum_cons, List.length_cons]
    have : b * ((l.length + 1 : Nat) : Int) = b * l.length + b := by rw [Int.natCast_add, Int.mul_add]; simp
    omega
theorem most_take {l : List Int} {k : Nat} (h : k < l.length) : most (l.take (k + 1)) = max (most (l.take k)) l[k] := by
  simp only [most]; rw [List.take_succ_eq_append_getElem h, List.foldl_append]; rfl
end M
theorem wrap_len {n : Nat} (h : n ≤ 9223372036854775807) : IntKind.i64.wrap ((n : Int) - 1) = (n : Int) - 1 := wrap_id (by omega) (by omega)
/-! ### what walks simplify with -/
attribute [go_sem] List.map_cons List.map_nil List.all_cons List.all_nil Bool.and_self Bool.and_true Bool.true_and List.contains_nil List.contains_cons Option.join_some Option.join_none Option.getD_some Option.getD_none Bool.or_false Bool.false_or List.append_toArray List.flatten_cons List.flatten_nil List.append_nil ge_iff_le gt_iff_lt Int.ofNat_lt Int.ofNat_le decide_eq_true_eq decide_true decide_false beq_true beq_false beq_self_eq_true Bool.not_true Bool.not_false Bool.not_not Bool.not_eq_true' Bool.not_eq_false' not_false_iff not_true List.replicate List.range List.range.loop List.size_toArray List.length_cons List.length_nil List.getElem?_toArray List.getElem?_cons_zero List.getElem?_cons_succ List.set_cons_zero List.set_cons_succ List.cons_append List.nil_append List.drop_zero List.drop_succ_cons List.take_succ_cons List.take_zero Nat.zero_le Nat.le_refl Nat.zero_add Nat.add_zero Int.toNat_natCast Int.natCast_nonneg if_true if_false Bool.false_eq_true and_self and_true true_and Option.bind_some Option.some.injEq wrap_succ cT_eq rI_length rB_length rL_length rH_length rP_length rI_take rI_all rB_all rL_all rH_all rP_all
end Go.Ab
namespace Go.Ab.M
open Go Go.RowKit
set_option linter.unusedVariables false
def hs (t : Town) (i : Nat) : House := (t.houses[i]?).getD ⟨0, [], false⟩
theorem hs_get {t : Town} {i : Nat} (h : i < t.houses.length) : hs t i = t.houses[i] := by simp [hs, h]
def at' (l : List Int) (i : Nat) : Int := (l[i]?).getD 0
theorem at_get {l : List Int} {i : Nat} (h : i < l.length) : at' l i = l[i] := by simp [at', h]
def kn (t : Town) (i : Nat) : Int × Int := (t.kin[i]?).getD (0, 0)
theorem kn_get {t : Town} {i : Nat} (h : i < t.kin.length) : kn t i = t.kin[i] := by simp [kn, h]
def row (t : Town) (i : Nat) : List Int := (t.walk[i]?).getD []
theorem row_get {t : Town} {i : Nat} (h : i < t.walk.length) : row t i = t.walk[i] := by simp [row, h]
theorem dist_row (t : Town) (i k : Nat) : dist t i k = at' (row t i) k := by simp [dist, at', row]
def Cell (t : Town) (i k : Nat) : Prop := inr (dist t i k) 0 1000 = true ∧ ¬ (i = k ∧ dist t i k ≠ 0) ∧ dist t i k = dist t k i
instance (t : Town) (i k : Nat) : Decidable (Cell t i k) := by unfold Cell; infer_instance
def Walks (t : Town) : Prop := (∀ i, i < t.walk.length → (row t i).length = t.walk.length) ∧ (∀ i, i < t.walk.length → ∀ k, k < t.walk.length → Cell t i k) ∧ inr t.walk.length 1 7 = true
instance (t : Town) : Decidable (Walks t) := by unfold Walks; infer_instance
def HouseOk (t : Town) (i : Nat) : Prop := lot t (hs t i).lot = true ∧ (∀ k, k < i → (hs t k).lot ≠ (hs t i).lot) ∧ ∀ k, k < (hs t i).wishes.length → lot t (at' (hs t i).wishes k) = true ∧ ((hs t i).wishes.take k).contains (at' (hs t i).wishes k) = false
instance (t : Town) (i : Nat) : Decidable (HouseOk t i) := by unfold HouseOk; infer_instance
def Houses (t : Town) : Prop := (∀ i, i < t.houses.length → HouseOk t i) ∧ inr t.houses.length 1 6 = true
instance (t : Town) : Decidable (Houses t) := by unfold Houses; infer_instance
def SchoolOk (t : Town) (i : Nat) : Prop := lot t (at' t.schools i) = true ∧ ¬ (0 < i ∧ at' t.schools i ≤ at' t.schools (i - 1))
instance (t : Town) (i : Nat) : Decidable (SchoolOk t i) := by unfold SchoolOk; infer_instance
def KinOk (t : Town) (i : Nat) : Prop := house t (kn t i).1 = true ∧ house t (kn t i).2 = true ∧ (kn t i).1 ≠ (kn t i).2
instance (t : Town) (i : Nat) : Decidable (KinOk t i) := by unfold KinOk; infer_instance
/-- The town is as defined. -/
structure Ok (t : Town) : Prop where
  walks : Walks t
  houses : Houses t
  reach : inr t.reach 0 1000 = true
  gone : t.gone.length = t.walk.length
  kin : t.kin.length ≤ 10
  schools : ∀ i, i < t.schools.length → SchoolOk t i
  kins : ∀ i, i < t.kin.length → KinOk t i
theorem ok_iff (t : Town) : Ok t ↔ Walks t ∧ Houses t ∧ inr t.reach 0 1000 = true ∧ t.gone.length = t.walk.length ∧ t.kin.length ≤ 10 ∧ (∀ i, i < t.schools.length → SchoolOk t i) ∧ (∀ i, i < t.kin.length → KinOk t i) :=
  ⟨fun ⟨a, b, c, d, e, f, g⟩ => ⟨a, b, c, d, e, f, g⟩, fun ⟨a, b, c, d, e, f, g⟩ => ⟨a, b, c, d, e, f, g⟩⟩
instance (t : Town) : Decidable (Ok t) := decidable_of_iff _ (ok_iff t).symm
def taught (t : Town) (n : Int) : Bool := t.schools.any fun s => near t s n
theorem inr_iff {x lo hi : Int} : inr x lo hi = true ↔ lo ≤ x ∧ x ≤ hi := by simp [inr]
theorem lot_iff {t : Town} {n : Int} : lot t n = true ↔ 0 ≤ n ∧ n < t.walk.length := by simp [lot, inr]; omega
theorem house_iff {t : Town} {n : Int} : house t n = true ↔ 0 ≤ n ∧ n < t.houses.length := by simp [house, inr]; omega
theorem Ok.square {t : Town} (h : Ok t) {i : Nat} (hi : i < t.walk.length) : (t.walk[i]).length = t.walk.length := by
  have := h.walks.1 i hi; rwa [row_get hi] at this
theorem Ok.school {t : Town} (h : Ok t) {s : Int} (hs : s ∈ t.schools) : lot t s = true := by
  obtain ⟨i, hi, rfl⟩ := List.mem_iff_getElem.1 hs
  have := (h.schools i hi).1
  rwa [at_get hi] at this
/-! ### what is wrong with a plan -/
def first (n : Nat) (f : Nat → Bool) : Option Nat := (List.range n).find? f
theorem first_some {n k : Nat} {f : Nat → Bool} (h : k < n) (hf : f k = true) (hb : ∀ j, j < k → f j = false) : first n f = some k := by
  unfold first
  rw [List.find?_range_eq_some]
  exact ⟨hf, List.mem_range.2 h, fun j hj => by simp [hb j hj]⟩
theorem first_none {n : Nat} {f : Nat → Bool} (hb : ∀ j, j < n → f j = false) : first n f = none := by
  unfold first
  rw [List.find?_range_eq_none]
  exact fun j hj => by simp [hb j hj]
def shared (p : List Int) (i : Nat) : Bool := (p.take i).contains (at' p i)
def gone (t : Town) (n : Int) : Bool := (t.gone[n.toNat]?).getD false
theorem gone_get {t : Town} {n : Int} (h : n.toNat < t.gone.length) : gone t n = t.gone[n.toNat] := by simp [gone, h]
def unwished (t : Town) (p : List Int) (i : Nat) : Bool := decide (rank t i (at' p i) < 0)
def untaught (t : Town) (p : List Int) (i : Nat) : Bool := (hs t i).school && !taught t (at' p i)
def apart (t : Town) (p : List Int) (k : Nat) : Bool := !near t (at' p (kn t k).1.toNat) (at' p (kn t k).2.toNat)
def fault (t : Town) (p : List Int) : Int × Int :=
  match first p.length (shared p) with
  | some i => (2, i)
  | none => match first p.length (fun i => gone t (at' p i)) with
    | some i => (3, i)
    | none => match first p.length (unwished t p) with
      | some i => (4, i)
      | none => match first p.length (untaught t p) with
        | some i => (5, i)
        | none => match first t.kin.length (apart t p) with
          | some k => (6, k)
          | none => (1, 0)
def allowed (t : Town) (p : List Int) : Bool := (fault t p).1 == 1
theorem plan_iff {t : Town} {p : List Int} : plan t p = true ↔ p.length = t.houses.length ∧ ∀ i, i < p.length → lot t (at' p i) = true := by
  simp only [plan, Bool.and_eq_true, List.all_eq_true, beq_iff_eq]
  constructor
  · rintro ⟨h1, h2⟩
    exact ⟨h2, fun i hi => by rw [at_get hi]; exact h1 _ (List.getElem_mem hi)⟩
  · rintro ⟨h1, h2⟩
    refine ⟨fun x hx => ?_, h1⟩
    obtain ⟨i, hi, rfl⟩ := List.mem_iff_getElem.1 hx
    have := h2 i hi
    rwa [at_get hi] at this
theorem rank_go (l : List Int) (n : Int) (k : Nat) (h : k < l.length) (he : l[k] = n) (hb : ∀ j, j < k → l[j]? ≠ some n) : pos l n = some k := by
  unfold pos
  rw [List.findIdx?_eq_some_iff_getElem]
  refine ⟨h, by simp [he], fun j hj => ?_⟩
  have := hb j hj
  rw [List.getElem?_eq_getElem (by omega)] at this
  simpa using this
theorem rank_no (l : List Int) (n : Int) (hb : ∀ j, j < l.length → l[j]? ≠ some n) : pos l n = none := by
  unfold pos
  rw [List.findIdx?_eq_none_iff]
  intro x hx
  obtain ⟨i, hi, rfl⟩ := List.mem_iff_getElem.1 hx
  have := hb i hi
  rw [List.getElem?_eq_getElem hi] at this
  simpa using this
theorem before_drop {l m : List Int} {k : Nat} (h1 : k < l.length) (h2 : k < m.length) : before (l.drop k) (m.drop k) = if l[k] = m[k] then before (l.drop (k + 1)) (m.drop (k + 1)) else decide (l[k] < m[k]) := by
  rw [List.drop_eq_getElem_cons h1, List.drop_eq_getElem_cons h2, before]
theorem before_end {l m : List Int} {k : Nat} (h : l.length ≤ k ∨ m.length ≤ k) : before (l.drop k) (m.drop k) = false := by
  rcases h with h | h
  · rw [List.drop_eq_nil_of_le h]; unfold before; rfl
  · rw [List.drop_eq_nil_of_le h]; cases l.drop k <;> rfl
theorem rank_at {t : Town} {h k : Nat} {n : Int} (hh : h < t.houses.length) (hk : k < (t.houses[h]).wishes.length) (he : (t.houses[h]).wishes[k] = n) (hb : ∀ j, j < k → (t.houses[h]).wishes[j]? ≠ some n) : rank t h n = k := by
  unfold rank
  rw [List.getElem?_eq_getElem hh]
  simp only [rank_go _ n k hk he hb]
theorem rank_off {t : Town} {h : Nat} {n : Int} (hh : h < t.houses.length) (hb : ∀ j, j < (t.houses[h]).wishes.length → (t.houses[h]).wishes[j]? ≠ some n) : rank t h n = if (t.houses[h]).lot = n then ((t.houses[h]).wishes.length : Int) else -1 := by
  unfold rank
  rw [List.getElem?_eq_getElem hh]
  simp only [rank_no _ n hb]
def ranks (t : Town) (p : List Int) : List Int := (List.range p.length).map fun i => rank t i (at' p i)
theorem ranks_length (t : Town) (p : List Int) : (ranks t p).length = p.length := by simp [ranks]
theorem ranks_take (t : Town) (p : List Int) {k : Nat} (h : k < p.length) : (ranks t p).take (k + 1) = (ranks t p).take k ++ [rank t k p[k]] := by
  rw [List.take_succ_eq_append_getElem (by rw [ranks_length]; exact h)]
  simp [ranks, at_get h]
theorem ranks_all (t : Town) (p : List Int) {k : Nat} (h : p.length ≤ k) : (ranks t p).take k = ranks t p := List.take_of_length_le (by rw [ranks_length]; exact h)
theorem ranks_step (t : Town) (p : List Int) {k : Nat} (h : k < p.length) : rI ((ranks t p).take k) ++ [[.int .i64 (rank t k p[k])]] = rI ((ranks t p).take (k + 1)) := by
  rw [ranks_take t p h]; simp [rI]
theorem dist_nat {t : Town} {i k : Nat} (hi : i < t.walk.length) (hk : k < (t.walk[i]).length) : dist t i k = (t.walk[i])[k] := by simp [dist, hi, hk]
end Go.Ab.M
namespace Go.Ab.M
open Go Go.RowKit
set_option linter.unusedVariables false
/-! ### towns with short lists -/
def Short (t : Town) : Prop := (∀ i, i < t.walk.length → i < 12 → (row t i).length ≤ 10) ∧ (∀ i, i < t.houses.length → i < 12 → (hs t i).wishes.length ≤ 10) ∧ t.walk.length ≤ 10 ∧ t.schools.length ≤ 10 ∧ t.gone.length ≤ 10 ∧ t.houses.length ≤ 9 ∧ t.kin.length ≤ 15
instance (t : Town) : Decidable (Short t) := by unfold Short; infer_instance
def Small (t : Town) : Prop := Short t ∧ (¬ Ok t ∨ t.houses.length ≤ 4 ∧ t.walk.length ≤ 5)
instance (t : Town) : Decidable (Small t) := by unfold Small; infer_instance
def fine (t : Town) (l : List Int) : Bool := l.all (fun x => decide (0 ≤ x) && decide (x ≤ 7)) && l.length == t.houses.length
def now (t : Town) : List Int := t.houses.map (·.lot)
theorem now_step (t : Town) {k : Nat} (h : k < t.houses.length) : rI ((now t).take k) ++ [[.int .i64 t.houses[k].lot]] = rI ((now t).take (k + 1)) := by
  rw [List.take_succ_eq_append_getElem (by simpa [now] using h)]
  simp [rI, now]
end Go.Ab.M
namespace Go.Ab.M
def differ (l m : List Int) : Bool := !(l == m)
def pleaseAt (t : Town) (p q : List Int) (i : Nat) : Bool := at' p i == at' q i || decide (rank t i (at' q i) < rank t i (at' p i))
def pleases (t : Town) (p q : List Int) : Bool := (List.range p.length).all (pleaseAt t p q) && differ p q
theorem differ_step {l m : List Int} {k : Nat} (h1 : k < l.length) (h2 : k < m.length) : differ (l.take (k + 1)) (m.take (k + 1)) = (differ (l.take k) (m.take k) || !(l[k] == m[k])) := by
  rw [List.take_succ_eq_append_getElem h1, List.take_succ_eq_append_getElem h2]
  have hlen : (l.take k).length = (m.take k).length := by simp; omega
  have key : (l.take k ++ [l[k]] = m.take k ++ [m[k]]) ↔ (l.take k = m.take k ∧ l[k] = m[k]) :=
    ⟨fun h => by have := List.append_inj h hlen; exact ⟨this.1, by simpa using this.2⟩, fun ⟨a, b⟩ => by rw [a, b]⟩
  generalize l.take k = A at *
  generalize m.take k = B at *
  generalize l[k] = x at *
  generalize m[k] = y at *
  unfold differ
  rw [Bool.eq_iff_iff]
  simp only [Bool.not_eq_true', beq_eq_false_iff_ne, ne_eq, Bool.or_eq_true, key]
  constructor
  · intro h
    by_cases hA : A = B
    · exact .inr fun hx => h ⟨hA, hx⟩
    · exact .inl hA
  · rintro (h | h) ⟨h1, h2⟩
    · exact h h1
    · exact h h2
end Go.Ab.M
namespace Go.Ab.M
open Go Go.RowKit
set_option linter.unusedVariables false
def idx (l : List Int) (n : Int) : Int := match pos l n with
  | some i => i
  | none => -1
theorem idx_at {l : List Int} {n : Int} {k : Nat} (h : k < l.length) (he : l[k] = n) (hb : ∀ j, j < k → l[j]? ≠ some n) : idx l n = k := by
  rw [idx, rank_go l n k h he hb]
theorem idx_no {l : List Int} {n : Int} (hb : ∀ j, j < l.length → l[j]? ≠ some n) : idx l n = -1 := by
  rw [idx, rank_no l n hb]
theorem idx_nonneg (l : List Int) (n : Int) : decide (0 ≤ idx l n) = l.contains n := by
  rw [Bool.eq_iff_iff]
  simp only [decide_eq_true_eq, List.contains_iff_mem]
  unfold idx pos
  cases h : l.findIdx? (· == n) with
  | none =>
    rw [List.findIdx?_eq_none_iff] at h
    simp only
    constructor
    · intro h'; omega
    · intro hm; have := h n hm; simp at this
  | some i =>
    rw [List.findIdx?_eq_some_iff_getElem] at h
    obtain ⟨h1, h2, _⟩ := h
    simp only [Int.natCast_nonneg, true_iff]
    have : l[i] = n := by simpa using h2
    rw [← this]; exact List.getElem_mem h1
end Go.Ab.M
namespace Go.Ab
open Go Go.RowKit
/-- A town that is looked at, with a plan. -/
def cW (t : Town) (p : List Int) : List V := [.sl 1 (rL t.walk), .int .i64 t.reach, .sl 1 (rI t.schools), .sl 1 (rB t.gone), .sl 3 (rH t.houses), .sl 2 (rP t.kin), .sl 1 (rI p)]
theorem cW_eq (t : Town) (p : List Int) : cW t p = [.sl 1 (rL t.walk), .int .i64 t.reach, .sl 1 (rI t.schools), .sl 1 (rB t.gone), .sl 3 (rH t.houses), .sl 2 (rP t.kin), .sl 1 (rI p)] := rfl
theorem cW_fits (t : Town) (p : List Int) : V.fitsL (cW t p) ↔ t.Fits ∧ p.length ≤ 9223372036854775807 := by
  have h := cT_fits t
  simp only [cT, V.fitsL, V.fits, and_true] at h
  simp only [cW, V.fitsL, V.fits, and_true, rI_fits, rI_length]
  rw [← h]
  simp only [rI_fits, rI_length, and_true, true_and, and_assoc]
end Go.Ab
namespace Go.Ab.M
def different (l : List Int) (n : Int) : Bool := (List.range l.length).all fun i => inr (at' l i) 0 (n - 1) && !shared l i
theorem different_false {l : List Int} {n : Int} {k : Nat} (h : k < l.length) (hf : inr (at' l k) 0 (n - 1) = false ∨ shared l k = true) : different l n = false := by
  unfold different
  rw [List.all_eq_false]
  exact ⟨k, List.mem_range.2 h, by rcases hf with h | h <;> simp [h]⟩
theorem different_true {l : List Int} {n : Int} (h : ∀ k, k < l.length → inr (at' l k) 0 (n - 1) = true ∧ shared l k = false) : different l n = true := by
  unfold different
  rw [List.all_eq_true]
  intro k hk
  have := h k (List.mem_range.1 hk)
  simp [this.1, this.2]
end Go.Ab.M
