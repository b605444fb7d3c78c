import Derived.Laws.StructEq
import Derived.ChangeKeysEq
import Derived.Test.YtahflobpopclpaaAb21
namespace Go.Ab
open Go Go.RowKit
set_option linter.unusedVariables false
theorem part_one {P : Program} {T : TypeId} (w : World) (hk : kindT P T = some false) {cs : Array Value} {off : Nat} {x : Value} (hx : cs[off]? = some x) : (part T cs off).run P w = .ok x w := by
  simp [part, run_isAgg hk, hx]
theorem eqFields_ints {P : Program} {d : Nat} {w : World} {xs ys : Array Value} : ∀ {fs : List Field} {xa xb : List Int}, (∀ f ∈ fs, (f.name == "_") = false ∧ kindT P f.type = some false ∧ P.underlying f.type = some (.int .i64)) →
    xa.length = fs.length → xb.length = fs.length → (∀ (k : Nat) f, fs[k]? = some f → ∀ a, xa[k]? = some a → xs[f.offset]? = some (.int .i64 a)) → (∀ (k : Nat) f, fs[k]? = some f → ∀ b, xb[k]? = some b → ys[f.offset]? = some (.int .i64 b)) →
    (Op.eqFields (d + 1) xs ys fs).run P w = .ok (xa == xb) w
  | [], [], [], _, _, _, _, _ => by simp [Op.eqFields]
  | f :: fs, a :: xa, b :: xb, hf, ha, hb, hx, hy => by
    obtain ⟨h1, h2, h3⟩ := hf f (by simp)
    have hn : f.name ≠ "_" := by simpa using h1
    have pa := part_one (P := P) w h2 (hx 0 f rfl a rfl)
    have pb := part_one (P := P) w h2 (hy 0 f rfl b rfl)
    have ih := eqFields_ints (P := P) (d := d) (w := w) (xs := xs) (ys := ys) (fs := fs) (xa := xa) (xb := xb) (fun g hg => hf g (by simp [hg])) (by simpa using ha) (by simpa using hb) (fun k g hk a' hk' => hx (k + 1) g (by simpa using hk) a' (by simpa using hk')) (fun k g hk a' hk' => hy (k + 1) g (by simpa using hk) a' (by simpa using hk'))
    rw [Op.eqFields]
    simp only [if_pos hn, Sem.run_bind, pa, pb, run_equalIn_int w d f.type .i64 .i64 a b h3, Result.andThen_ok]
    cases hab : (a == b)
    · simp [hab, List.cons_beq_cons]
    · simp [ih, hab, List.cons_beq_cons]
  | [], _ :: _, _, _, h, _, _, _ => by simp at h
  | [], [], _ :: _, _, _, h, _, _ => by simp at h
  | _ :: _, [], _, _, h, _, _, _ => by simp at h
  | _ :: _, _ :: _, [], _, _, h, _, _ => by simp at h
theorem valsK_get (n : Nat) : ∀ (xa : List Int) (k : Nat) (a : Int), xa.length = n → xa[k]? = some a → (valsK (List.replicate n .i64) xa)[k]? = some (.int .i64 a) := by
  induction n with
  | zero => intro xa k a h hk; have : xa = [] := List.length_eq_zero_iff.1 h; subst this; simp at hk
  | succ n ih =>
    intro xa k a h hk
    cases xa with
    | nil => simp at h
    | cons x xa =>
      simp only [List.replicate_succ, valsK]
      cases k with
      | zero => simpa using hk
      | succ k => simpa using ih xa k a (by simpa using h) (by simpa using hk)
theorem struct_eq {P : Program} {T n : Nat} (h1 : P.eqGuardType P.depth T = false) (h2 : P.stoodInHeld T = false) (h3 : P.underlying T = some (.struct (P.fieldsOf T)))
    (h4 : (P.fieldsOf T).toList.length = n) (h5 : ∀ f ∈ (P.fieldsOf T).toList, (f.name == "_") = false ∧ kindT P f.type = some false ∧ P.underlying f.type = some (.int .i64)) (h6 : (P.fieldsOf T).toList.map (·.offset) = List.range n)
    (xa xb : List Int) (x y : Operand) (w : World) (ha : xa.length = n) (hb : xb.length = n) :
    ((do eqGuard .eql T x y (.agg (valsK (List.replicate n .i64) xa).toArray) (.agg (valsK (List.replicate n .i64) xb).toArray); binOp .eql T (.agg (valsK (List.replicate n .i64) xa).toArray) (.agg (valsK (List.replicate n .i64) xb).toArray)).run P w = .ok (.bool (xa == xb)) w) ∧
    ((do eqGuard .neq T x y (.agg (valsK (List.replicate n .i64) xa).toArray) (.agg (valsK (List.replicate n .i64) xb).toArray); binOp .neq T (.agg (valsK (List.replicate n .i64) xa).toArray) (.agg (valsK (List.replicate n .i64) xb).toArray)).run P w = .ok (.bool (!(xa == xb))) w) := by
  have hoff : ∀ (k : Nat) f, (P.fieldsOf T).toList[k]? = some f → f.offset = k := fun k f hk => by
    have hlt := (List.getElem?_eq_some_iff.1 hk).1
    have := congrArg (fun l => l[k]?) h6
    simp only [List.getElem?_map, hk, Option.map_some] at this
    rw [List.getElem?_range (by omega)] at this
    simpa using this
  have he := eqFields_ints (P := P) (d := 9998) (w := w) (xs := (valsK (List.replicate n .i64) xa).toArray) (ys := (valsK (List.replicate n .i64) xb).toArray) (fs := (P.fieldsOf T).toList) (xa := xa) (xb := xb) h5 (by omega) (by omega)
    (fun k f hk a hk' => by rw [hoff k f hk]; simpa using valsK_get n xa k a ha hk') (fun k f hk a hk' => by rw [hoff k f hk]; simpa using valsK_get n xb k a hb hk')
  have hs : (Op.equalIn 10000 T (.agg (valsK (List.replicate n .i64) xa).toArray) (.agg (valsK (List.replicate n .i64) xb).toArray)).run P w = .ok (xa == xb) w := by
    rw [show (10000 : Nat) = 9999 + 1 from rfl, run_equalIn_struct w 9999 T _ _ h3 h2]
    exact he
  constructor
  · simp only [Sem.run_bind, run_eqGuard_agg w .eql T x y _ _ h1, Result.andThen_ok, run_eql_struct, hs]
  · simp only [Sem.run_bind, run_eqGuard_agg w .neq T x y _ _ h1, Result.andThen_ok, run_neq_struct, hs]
def okF (P : Program) : List Field → Bool
  | [] => true
  | f :: fs => (f.name == "_") == false && (kindT P f.type == some false) && (match P.underlying f.type with | some (.int .i64) => true | _ => false) && okF P fs
theorem okF_spec {P : Program} : ∀ (fs : List Field), okF P fs = true → ∀ f ∈ fs, (f.name == "_") = false ∧ kindT P f.type = some false ∧ P.underlying f.type = some (.int .i64)
  | [], _, f, h => by cases h
  | g :: fs, h, f, hf => by
    simp only [okF, Bool.and_eq_true, beq_iff_eq] at h
    obtain ⟨⟨⟨h1, h2⟩, h3⟩, h4⟩ := h
    rcases List.mem_cons.1 hf with rfl | hf
    · refine ⟨h1, h2, ?_⟩
      split at h3
      · assumption
      · cases h3
    · exact okF_spec fs h4 f hf
theorem eqItems_ints {P : Program} {d E : Nat} {w : World} (hk : kindT P E = some false) (hu : P.underlying E = some (.int .i64)) (hc : P.cellsOf E = 1) (n : Nat) (xa xb : List Int) (ha : xa.length = n) (hb : xb.length = n) : ∀ (m k : Nat), k + m = n →
    (Op.eqItems (d + 1) E 1 (valsK (List.replicate n .i64) xa).toArray (valsK (List.replicate n .i64) xb).toArray (List.range' k m)).run P w = .ok (xa.drop k == xb.drop k) w
  | 0, k, hk' => by
    rw [List.drop_eq_nil_of_le (by omega), List.drop_eq_nil_of_le (by omega)]
    simp [Op.eqItems]
  | m + 1, k, hk' => by
    have h1 : k < xa.length := by omega
    have h2 : k < xb.length := by omega
    have pa := part_one (P := P) (off := k) w hk (cs := (valsK (List.replicate n .i64) xa).toArray) (by simpa using valsK_get n xa k xa[k] ha (List.getElem?_eq_getElem h1))
    have pb := part_one (P := P) (off := k) w hk (cs := (valsK (List.replicate n .i64) xb).toArray) (by simpa using valsK_get n xb k xb[k] hb (List.getElem?_eq_getElem h2))
    have e : (xa.drop k == xb.drop k) = (xa[k] == xb[k] && xa.drop (k + 1) == xb.drop (k + 1)) := by
      rw [List.drop_eq_getElem_cons h1, List.drop_eq_getElem_cons h2, List.cons_beq_cons]
    rw [e, List.range'_succ]
    simp only [Op.eqItems, Nat.mul_one, Sem.run_bind, pa, pb, run_equalIn_int w d E .i64 .i64 _ _ hu, Result.andThen_ok]
    cases hab : (xa[k] == xb[k])
    · simp
    · simp [eqItems_ints hk hu hc n xa xb ha hb m (k + 1) (by omega)]
theorem check_int {P : Program} {E : Nat} (hu : P.underlying E = some (.int .i64)) (e : Bool) (n : Nat) (a : Int) (w : World) : (Instr.checkKey e (n + 1) E (.int .i64 a)).run P w = .ok () w := by
  rw [Instr.checkKey]
  simp [run_underlying hu]
/-- The type is a struct, or an array, of n ints, as far as '==' goes. -/
structure EqInts (P : Program) (T n : Nat) : Prop where
  ops : ∀ (xa xb : List Int) (x y : Operand) (w : World), xa.length = n → xb.length = n →
    ((do eqGuard .eql T x y (.agg (valsK (List.replicate n .i64) xa).toArray) (.agg (valsK (List.replicate n .i64) xb).toArray); binOp .eql T (.agg (valsK (List.replicate n .i64) xa).toArray) (.agg (valsK (List.replicate n .i64) xb).toArray)).run P w = .ok (.bool (xa == xb)) w) ∧
    ((do eqGuard .neq T x y (.agg (valsK (List.replicate n .i64) xa).toArray) (.agg (valsK (List.replicate n .i64) xb).toArray); binOp .neq T (.agg (valsK (List.replicate n .i64) xa).toArray) (.agg (valsK (List.replicate n .i64) xb).toArray)).run P w = .ok (.bool (!(xa == xb))) w)
  eq : ∀ (xa xb : List Int) (w : World), xa.length = n → xb.length = n → (Op.equal T (.agg (valsK (List.replicate n .i64) xa).toArray) (.agg (valsK (List.replicate n .i64) xb).toArray)).run P w = .ok (xa == xb) w
  chk : ∀ (xa : List Int) (e : Bool) (w : World), xa.length = n → (Instr.checkKey e 10000 T (.agg (valsK (List.replicate n .i64) xa).toArray)).run P w = .ok () w
  wide : wideT P T = true
theorem EqInts.of_eq {P : Program} {T n : Nat} (h1 : P.eqGuardType P.depth T = false) (he : ∀ (xa xb : List Int) (w : World), xa.length = n → xb.length = n → (Op.equalIn 10000 T (.agg (valsK (List.replicate n .i64) xa).toArray) (.agg (valsK (List.replicate n .i64) xb).toArray)).run P w = .ok (xa == xb) w)
    (hc : ∀ (xa : List Int) (e : Bool) (w : World), xa.length = n → (Instr.checkKey e 10000 T (.agg (valsK (List.replicate n .i64) xa).toArray)).run P w = .ok () w) (hw : wideT P T = true) : EqInts P T n := by
  refine ⟨fun xa xb x y w ha hb => ?_, fun xa xb w ha hb => he xa xb w ha hb, hc, hw⟩
  constructor
  · simp only [Sem.run_bind, run_eqGuard_agg w .eql T x y _ _ h1, Result.andThen_ok, run_eql_struct, he xa xb w ha hb]
  · simp only [Sem.run_bind, run_eqGuard_agg w .neq T x y _ _ h1, Result.andThen_ok, run_neq_struct, he xa xb w ha hb]
theorem EqInts.of {P : Program} {T n : Nat} (h1 : P.eqGuardType P.depth T = false) (h2 : P.stoodInHeld T = false) (h3 : P.underlying T = some (.struct (P.fieldsOf T)))
    (h4 : (P.fieldsOf T).toList.length = n) (h5 : okF P (P.fieldsOf T).toList = true) (h6 : (P.fieldsOf T).toList.map (·.offset) = List.range n) : EqInts P T n := by
  have h5' := okF_spec _ h5
  have hoff : ∀ (k : Nat) f, (P.fieldsOf T).toList[k]? = some f → f.offset = k := fun k f hk => by
    have hlt := (List.getElem?_eq_some_iff.1 hk).1
    have := congrArg (fun l => l[k]?) h6
    simp only [List.getElem?_map, hk, Option.map_some] at this
    rw [List.getElem?_range (by omega)] at this
    simpa using this
  refine .of_eq h1 (fun xa xb w ha hb => ?_) (fun xa e w ha => ?_) (by unfold wideT; rw [h3])
  · rw [show (10000 : Nat) = 9999 + 1 from rfl, run_equalIn_struct w 9999 T _ _ h3 h2]
    exact eqFields_ints (P := P) (d := 9998) (w := w) (xs := (valsK (List.replicate n .i64) xa).toArray) (ys := (valsK (List.replicate n .i64) xb).toArray) (fs := (P.fieldsOf T).toList) (xa := xa) (xb := xb) h5' (by omega) (by omega)
      (fun k f hk a hk' => by rw [hoff k f hk]; simpa using valsK_get n xa k a ha hk') (fun k f hk a hk' => by rw [hoff k f hk]; simpa using valsK_get n xb k a hb hk')
  · rw [show (10000 : Nat) = 9998 + 1 + 1 from rfl, Instr.checkKey]
    simp only [Sem.run_bind, run_underlying h3, Result.andThen_ok]
    rw [← Array.forIn_toList]
    have each : ∀ f ∈ (P.fieldsOf T).toList, f.name ≠ "_" ∧ P.underlying f.type = some (.int .i64) ∧ ∃ a, (part f.type (valsK (List.replicate n .i64) xa).toArray f.offset).run P w = .ok (.int .i64 a) w := fun f hf => by
      obtain ⟨g1, g2, g3⟩ := h5' f hf
      obtain ⟨k, hk⟩ := List.getElem?_of_mem hf
      have hlt : k < xa.length := by have := (List.getElem?_eq_some_iff.1 hk).1; omega
      refine ⟨by simpa using g1, g3, xa[k], part_one w g2 ?_⟩
      rw [hoff k f hk]
      simpa using valsK_get n xa k xa[k] ha (List.getElem?_eq_getElem hlt)
    generalize (P.fieldsOf T).toList = L at each
    induction L with
    | nil => simp
    | cons f L ih =>
      obtain ⟨hn, hu, a, hp⟩ := each f (by simp)
      have p2 := check_int hu e 9998 a w
      simp only [List.forIn_cons, Sem.run_bind, hn, ne_eq, not_false_eq_true, if_true, Result.andThen_ok, hp, p2, Sem.run_pure]
      exact ih (fun y hy => each y (by simp [hy]))
theorem EqInts.ofArr {P : Program} {T E n : Nat} (h1 : P.eqGuardType P.depth T = false) (h3 : P.underlying T = some (.array n E)) (hk : kindT P E = some false) (hu : P.underlying E = some (.int .i64)) (hc : P.cellsOf E = 1) : EqInts P T n := by
  have hi : ∃ i, P.info? E = some i := by
    obtain ⟨i, hi, _⟩ := info_of_kind hk
    exact ⟨i, hi⟩
  obtain ⟨i, hi⟩ := hi
  refine .of_eq h1 (fun xa xb w ha hb => ?_) (fun xa e w ha => ?_) (by unfold wideT; rw [h3])
  · rw [show (10000 : Nat) = 9999 + 1 from rfl, run_equalIn_array w 9999 _ _ h3 hi, hc, List.range_eq_range']
    have := eqItems_ints (P := P) (d := 9998) (w := w) hk hu hc n xa xb ha hb n 0 (by omega)
    simpa using this
  · rw [show (10000 : Nat) = 9998 + 1 + 1 from rfl, Instr.checkKey]
    simp only [Sem.run_bind, run_underlying h3, Result.andThen_ok]
    simp only [Std.Legacy.Range.forIn_eq_forIn_range', Std.Legacy.Range.size, Nat.sub_zero, Nat.add_one_sub_one, Nat.div_one]
    have each : ∀ j ∈ List.range' 0 n, ∃ a, (part E (valsK (List.replicate n .i64) xa).toArray j).run P w = .ok (.int .i64 a) w := fun j hj => by
      simp only [List.mem_range'_1] at hj
      have hlt : j < xa.length := by omega
      exact ⟨xa[j], part_one w hk (by simpa using valsK_get n xa j xa[j] ha (List.getElem?_eq_getElem hlt))⟩
    have hsz : (sizeOf E).run P w = .ok 1 w := by rw [← hc]; exact cellsOf_info (by omega) w
    generalize List.range' 0 n = is at each
    induction is with
    | nil => simp
    | cons j is ih =>
      obtain ⟨a, hp⟩ := each j (by simp)
      have p2 := check_int hu e 9998 a w
      simp only [List.forIn_cons, Sem.run_bind, hsz, Result.andThen_ok, Nat.mul_one, hp, p2, Sem.run_pure]
      exact ih (fun y hy => each y (by simp [hy]))
end Go.Ab
