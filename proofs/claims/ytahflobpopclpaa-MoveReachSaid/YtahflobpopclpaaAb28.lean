import Derived.Test.YtahflobpopclpaaAb27
namespace Go.Ab
open Go Go.RowKit
set_option linter.unusedVariables false
/-! ### values, brought to their form -/
def fNat {α : Type} (n : Nat) (k : Nat → α) : α := Nat.rec (k 0) (fun m _ => k (m + 1)) n
theorem fNat_eq {α : Type} (n : Nat) (k : Nat → α) : fNat n k = k n := by cases n <;> rfl
def fInt {α : Type} (n : Int) (k : Int → α) : α :=
  match n with
  | .ofNat m => fNat m fun m => k (.ofNat m)
  | .negSucc m => fNat m fun m => k (.negSucc m)
theorem fInt_eq {α : Type} (n : Int) (k : Int → α) : fInt n k = k n := by cases n <;> simp [fInt, fNat_eq]
def fBool {α : Type} (b : Bool) (k : Bool → α) : α :=
  match b with
  | true => k true
  | false => k false
theorem fBool_eq {α : Type} (b : Bool) (k : Bool → α) : fBool b k = k b := by cases b <;> rfl
def fV0 {α : Type} (v : V) (k : V → α) : α :=
  match v with
  | .int kd n => fInt n fun n => k (.int kd n)
  | .bool b => fBool b fun b => k (.bool b)
  | .ptr i o => fNat i fun i => fNat o fun o => k (.ptr i o)
  | .arr i n => fNat i fun i => fNat n fun n => k (.arr i n)
  | .arrd i n d => fNat i fun i => fNat n fun n => fNat d fun d => k (.arrd i n d)
  | .yield i => fNat i fun i => k (.yield i)
  | .map i => fNat i fun i => k (.map i)
  | v => k v
theorem fV0_eq {α : Type} (v : V) (k : V → α) : fV0 v k = k v := by
  cases v <;> simp only [fV0, fNat_eq, fInt_eq, fBool_eq]
noncomputable def fL0 {α : Type} (l : List V) : (List V → α) → α := List.rec (fun k => k []) (fun c _ ih k => fV0 c fun c => ih fun cs => k (c :: cs)) l
theorem fL0_eq {α : Type} : ∀ (l : List V) (k : List V → α), fL0 l k = k l
  | [], k => rfl
  | c :: cs, k => by
    show (fV0 c fun c => fL0 cs fun cs => k (c :: cs)) = _
    simp only [fV0_eq, fL0_eq cs]
noncomputable def fV1 {α : Type} (v : V) (k : V → α) : α :=
  match v with
  | .agg cs => fL0 cs fun cs => k (.agg cs)
  | v => fV0 v k
theorem fV1_eq {α : Type} (v : V) (k : V → α) : fV1 v k = k v := by
  cases v <;> simp only [fV1, fV0_eq, fL0_eq]
noncomputable def fL1 {α : Type} (l : List V) : (List V → α) → α := List.rec (fun k => k []) (fun c _ ih k => fV1 c fun c => ih fun cs => k (c :: cs)) l
theorem fL1_eq {α : Type} : ∀ (l : List V) (k : List V → α), fL1 l k = k l
  | [], k => rfl
  | c :: cs, k => by
    show (fV1 c fun c => fL1 cs fun cs => k (c :: cs)) = _
    simp only [fV1_eq, fL1_eq cs]
noncomputable def fRows {α : Type} (l : List (List V)) : (List (List V) → α) → α := List.rec (fun k => k []) (fun c _ ih k => fL0 c fun c => ih fun cs => k (c :: cs)) l
theorem fRows_eq {α : Type} : ∀ (l : List (List V)) (k : List (List V) → α), fRows l k = k l
  | [], k => rfl
  | c :: cs, k => by
    show (fL0 c fun c => fRows cs fun cs => k (c :: cs)) = _
    simp only [fL0_eq, fRows_eq cs]
noncomputable def fV {α : Type} (v : V) (k : V → α) : α :=
  match v with
  | .tup cs => fL1 cs fun cs => k (.tup cs)
  | .sl sz rows => fRows rows fun rows => k (.sl sz rows)
  | v => fV1 v k
theorem fV_eq {α : Type} (v : V) (k : V → α) : fV v k = k v := by
  cases v <;> simp only [fV, fV1_eq, fL1_eq, fRows_eq]
noncomputable def fEs {α : Type} (l : List (V × V)) : (List (V × V) → α) → α := List.rec (fun k => k []) (fun c _ ih k => fV1 c.1 fun a => fV1 c.2 fun b => ih fun cs => k ((a, b) :: cs)) l
theorem fEs_eq {α : Type} : ∀ (l : List (V × V)) (k : List (V × V) → α), fEs l k = k l
  | [], k => rfl
  | (a, b) :: cs, k => by
    show (fV1 a fun a => fV1 b fun b => fEs cs fun cs => k ((a, b) :: cs)) = _
    simp only [fV1_eq, fEs_eq cs]
noncomputable def fObj {α : Type} (o : AObj) (k : AObj → α) : α :=
  match o with
  | .box T cs => fL0 cs fun cs => k (.box T cs)
  | .arr T sz rows fr => fRows rows fun rows => fBool fr fun fr => k (.arr T sz rows fr)
  | .que T sz rows => fRows rows fun rows => k (.que T sz rows)
  | .map es => fEs es fun es => k (.map es)
  | o => k o
theorem fObj_eq {α : Type} (o : AObj) (k : AObj → α) : fObj o k = k o := by
  cases o <;> simp only [fObj, fL0_eq, fRows_eq, fEs_eq, fBool_eq]
noncomputable def fH {α : Type} (l : List AObj) : (List AObj → α) → α := List.rec (fun k => k []) (fun c _ ih k => fObj c fun c => ih fun cs => k (c :: cs)) l
theorem fH_eq {α : Type} : ∀ (l : List AObj) (k : List AObj → α), fH l k = k l
  | [], k => rfl
  | c :: cs, k => by
    show (fObj c fun c => fH cs fun cs => k (c :: cs)) = _
    simp only [fObj_eq, fH_eq cs]
/-! ### slots, as a tree -/
inductive Tr where
  | e
  | lf (v : V)
  | nd (l r : Tr)
noncomputable def Tr.get (t : Tr) : Nat → Option V := Tr.rec (fun _ => none) (fun v n => Nat.rec (some v) (fun _ _ => none) n) (fun _ _ gl gr n => Nat.rec (gl (n / 2)) (fun _ _ => gr (n / 2)) (n % 2)) t
noncomputable def Tr.set {α : Type} (t : Tr) : Nat → V → (Tr → α) → α :=
  Tr.rec (fun _ _ k => k .e) (fun w n v k => Nat.rec (k (.lf v)) (fun _ _ => k (.lf w)) n) (fun l r sl sr n v k => Nat.rec (sl (n / 2) v fun l => k (.nd l r)) (fun _ _ => sr (n / 2) v fun r => k (.nd l r)) (n % 2)) t
theorem get_e (n : Nat) : Tr.get .e n = none := rfl
theorem get_lf (v : V) (n : Nat) : Tr.get (.lf v) n = if n = 0 then some v else none := by cases n <;> rfl
theorem get_nd (l r : Tr) (n : Nat) : Tr.get (.nd l r) n = if n % 2 = 0 then l.get (n / 2) else r.get (n / 2) := by
  show (Nat.rec (l.get (n / 2)) (fun _ _ => r.get (n / 2)) (n % 2) : Option V) = _
  rcases Nat.mod_two_eq_zero_or_one n with h | h <;> rw [h] <;> rfl
theorem set_spec {α : Type} : ∀ (t : Tr) (n : Nat) (v : V), ∃ t', (∀ k : Tr → α, t.set n v k = k t') ∧ ∀ i, t'.get i = if i = n ∧ (t.get n).isSome = true then some v else t.get i
  | .e, n, v => ⟨.e, fun k => rfl, fun i => by simp [get_e]⟩
  | .lf w, n, v => by
    cases n with
    | zero => exact ⟨.lf v, fun k => rfl, fun i => by simp only [get_lf]; by_cases h : i = 0 <;> simp [h]⟩
    | succ n => exact ⟨.lf w, fun k => rfl, fun i => by simp only [get_lf]; simp⟩
  | .nd l r, n, v => by
    obtain ⟨l', hl, gl⟩ := set_spec (α := α) l (n / 2) v
    obtain ⟨r', hr, gr⟩ := set_spec (α := α) r (n / 2) v
    rcases Nat.mod_two_eq_zero_or_one n with h | h
    · refine ⟨.nd l' r, fun k => ?_, fun i => ?_⟩
      · show (Nat.rec (l.set (n / 2) v fun l => k (.nd l r)) (fun _ _ => r.set (n / 2) v fun r => k (.nd l r)) (n % 2) : α) = _
        rw [h]; exact hl _
      · simp only [get_nd, gl, h, if_true]
        by_cases hi : i % 2 = 0
        · have : i / 2 = n / 2 ↔ i = n := by omega
          simp [hi, this]
        · have : i ≠ n := by omega
          simp [hi, this]
    · refine ⟨.nd l r', fun k => ?_, fun i => ?_⟩
      · show (Nat.rec (l.set (n / 2) v fun l => k (.nd l r)) (fun _ _ => r.set (n / 2) v fun r => k (.nd l r)) (n % 2) : α) = _
        rw [h]; exact hr _
      · simp only [get_nd, gr, h]
        by_cases hi : i % 2 = 0
        · have : i ≠ n := by omega
          simp [hi, this]
        · have : i / 2 = n / 2 ↔ i = n := by omega
          simp [hi, this]
def Rep (tr : Tr) (t : List V) : Prop := ∀ i, tr.get i = t[i]?
theorem Rep.set {α : Type} {tr : Tr} {t : List V} (h : Rep tr t) (d : Nat) (v : V) : ∃ tr', (∀ k : Tr → α, tr.set d v k = k tr') ∧ Rep tr' (t.set d v) := by
  obtain ⟨tr', h1, h2⟩ := set_spec (α := α) tr d v
  refine ⟨tr', h1, fun i => ?_⟩
  rw [h2, h d, h i, List.getElem?_set]
  by_cases hd : d = i
  · subst hd
    by_cases hl : d < t.length <;> simp [hl]
  · simp [hd, Ne.symm hd]
/-- A tree of n slots with nothing in them. -/
noncomputable def mkTr (n : Nat) (d : Nat) : Nat → Nat → Tr := Nat.rec (fun _ b => Nat.rec .e (fun _ _ => .lf .undef) (n - b)) (fun _ ih s b => .nd (ih (2 * s) b) (ih (2 * s) (b + s))) d
theorem mkTr_get (n : Nat) : ∀ (d s b i : Nat), (mkTr n d s b).get i = if i < 2 ^ d ∧ b + i * s < n then some .undef else none
  | 0, s, b, i => by
    show Tr.get (Nat.rec .e (fun _ _ => .lf .undef) (n - b)) i = _
    rcases hk : n - b with _ | k
    · show Tr.get .e i = _
      simp only [get_e]
      by_cases hi : i = 0
      · subst hi; simp; omega
      · simp [hi]
    · show Tr.get (.lf .undef) i = _
      simp only [get_lf]
      by_cases hi : i = 0
      · subst hi; simp; omega
      · simp [hi]
  | d + 1, s, b, i => by
    show Tr.get (.nd (mkTr n d (2 * s) b) (mkTr n d (2 * s) (b + s))) i = _
    rw [get_nd, mkTr_get n d, mkTr_get n d, Nat.pow_succ]
    rcases Nat.mod_two_eq_zero_or_one i with h | h
    · rw [if_pos h]
      have e : b + i / 2 * (2 * s) = b + i * s := by
        have : i = 2 * (i / 2) := by omega
        conv => rhs; rw [this]
        rw [Nat.mul_comm 2 s, ← Nat.mul_assoc, Nat.mul_right_comm, Nat.mul_comm (i / 2 * 2)]
        rw [Nat.mul_comm (i / 2) 2, Nat.mul_comm s]
        
      rw [e]
      have : i / 2 < 2 ^ d ↔ i < 2 ^ d * 2 := by omega
      simp only [this]
    · rw [if_neg (by omega)]
      have e : b + s + i / 2 * (2 * s) = b + i * s := by
        have : i = 2 * (i / 2) + 1 := by omega
        conv => rhs; rw [this]
        rw [Nat.add_mul, Nat.one_mul, Nat.mul_comm 2 (i / 2), Nat.mul_assoc]
        omega
      rw [e]
      have : i / 2 < 2 ^ d ↔ i < 2 ^ d * 2 := by omega
      simp only [this]
theorem mkTr_rep (n : Nat) (h : n ≤ 256) : Rep (mkTr n 8 1 0) (List.replicate n .undef) := fun i => by
  rw [mkTr_get, List.getElem?_replicate]
  by_cases hi : i < n
  · rw [if_pos ⟨by omega, by omega⟩, if_pos hi]
  · rw [if_neg (by omega), if_neg hi]
noncomputable def setL {α : Type} (l : List V) : Nat → Tr → (Tr → α) → α := List.rec (fun _ tr k => k tr) (fun v _ ih i tr k => tr.set i v fun tr => ih (i + 1) tr k) l
theorem setL_rep {α : Type} : ∀ (l : List V) (i : Nat) (tr : Tr) (t : List V), Rep tr t → ∃ tr', (∀ k : Tr → α, setL l i tr k = k tr') ∧ Rep tr' (t.take i ++ (l ++ t.drop (i + l.length)).take (t.length - i))
  | [], i, tr, t, h => ⟨tr, fun k => rfl, by
    have : t.take i ++ ([] ++ t.drop (i + ([] : List V).length)).take (t.length - i) = t := by
      have e : (t.drop i).take (t.length - i) = t.drop i := List.take_of_length_le (by simp)
      simp only [List.nil_append, List.length_nil, Nat.add_zero, e]
      exact List.take_append_drop i t
    rw [this]; exact h⟩
  | v :: l, i, tr, t, h => by
    obtain ⟨tr1, h1, r1⟩ := Rep.set (α := α) h i v
    obtain ⟨tr2, h2, r2⟩ := setL_rep (α := α) l (i + 1) tr1 (t.set i v) r1
    refine ⟨tr2, fun k => ?_, ?_⟩
    · show (tr.set i v fun tr => setL l (i + 1) tr k) = _
      rw [h1]; exact h2 k
    · have : (t.set i v).take (i + 1) ++ (l ++ (t.set i v).drop (i + 1 + l.length)).take ((t.set i v).length - (i + 1)) = t.take i ++ (v :: l ++ t.drop (i + (v :: l).length)).take (t.length - i) := by
        apply List.ext_getElem?
        intro j
        simp only [List.getElem?_append, List.getElem?_take, List.getElem?_drop, List.getElem?_set, List.length_take, List.length_set, List.length_append, List.length_drop, List.length_cons, List.cons_append]
        rcases Nat.lt_trichotomy j i with hj | hj | hj
        · by_cases hl : j < t.length
          · have h1 : j < min (i + 1) t.length := by omega
            have h2 : j < min i t.length := by omega
            simp [h1, h2, show i ≠ j by omega, show j < i + 1 by omega, hj]
          · grind
        · grind
        · grind
      rw [← this]; exact r2
/-- What a function begins with. -/
theorem enter_rep {α : Type} (fn : Func) (args : List V) (h1 : args.length ≤ fn.ntmps) (h2 : fn.ntmps ≤ 256) : ∃ tr, (∀ k : Tr → α, setL args 0 (mkTr fn.ntmps 8 1 0) k = k tr) ∧ Rep tr (enter fn args) := by
  obtain ⟨tr, h3, h4⟩ := setL_rep (α := α) args 0 _ _ (mkTr_rep fn.ntmps h2)
  refine ⟨tr, h3, ?_⟩
  have : (List.replicate fn.ntmps V.undef).take 0 ++ (args ++ (List.replicate fn.ntmps V.undef).drop (0 + args.length)).take ((List.replicate fn.ntmps V.undef).length - 0) = enter fn args := by
    simp only [List.take_zero, List.nil_append, Nat.zero_add, List.drop_replicate, List.length_replicate, Nat.sub_zero, enter]
    rw [List.take_of_length_le (by simp; omega)]
  rw [← this]; exact h4
/-- The slots as a list. -/
noncomputable def toL (tr : Tr) (n : Nat) : List V := (List.range n).map fun i => (tr.get i).getD .undef
theorem toL_rep {tr : Tr} {t : List V} (h : Rep tr t) : toL tr t.length = t := by
  apply List.ext_getElem?
  intro i
  simp only [toL, List.getElem?_map]
  by_cases hi : i < t.length
  · rw [List.getElem?_range hi]; simp [h i, hi]
  · simp [hi]
end Go.Ab
