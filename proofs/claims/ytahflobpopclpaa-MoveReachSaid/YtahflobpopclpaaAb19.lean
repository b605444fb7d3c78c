import Derived.Test.YtahflobpopclpaaAb18
namespace Go.Ab
open Go Go.RowKit
set_option linter.unusedVariables false

/-- What an operation does to the heap. -/
inductive Eff where
  | none
  | set (a : Nat) (o : AObj)
  | push (o : AObj)
def Eff.app : Eff → List AObj → List AObj
  | .none, h => h
  | .set a o, h => h.set a o
  | .push o, h => h ++ [o]
/-- The object that it writes, or makes: and whether it makes it. -/
def cidE (e : Operand → Option V) (n : Nat) : Op → Option (Nat × Bool)
  | .alloc _ | .box _ _ | .makeSlice _ _ _ => some (n, true)
  | .store _ p _ => match e p with
    | some (.ptr i _) | some (.aptr i _ _ _) => some (i, false)
    | _ => none
  | .call ⟨.builtin .append, args, _⟩ => match args.toList with
    | [x, _] => match e x with
      | some (.arr i _) | some (.arrd i _ _) => some (i, false)
      | some .nil => some (n, true)
      | _ => none
    | _ => none
  | _ => none
def cidOf (s : St) (op : Op) : Option (Nat × Bool) := cidE (ev s) s.h.length op
/-- Nothing but what is looked at by name is looked at. -/
def tameE (e : Operand → Option V) : Op → Bool
  | .makeMap _ _ | .insert _ _ _ _ | .mapUpdate _ _ _ _ | .lookup _ _ _ _ | .typeAssert _ _ _ _ => false
  | .call ⟨.builtin .append, args, _⟩ => match args.toList with
    | [_, y] => match e y with
      | some (.arr _ _) => false
      | _ => true
    | _ => true
  | _ => true
def tame (s : St) (op : Op) : Bool := tameE (ev s) op
def seenA (p : Nat → Bool) (e : Operand → Option V) (op : Op) : Bool := op.operands.toList.all fun x => match e x with
  | some v => v.all p
  | none => true
/-- All that the operation looks at is let by; a pointer may be handed on unseen. -/
def seenE (p : Nat → Bool) (e : Operand → Option V) : Op → Bool
  | .move _ | .assign _ | .pick _ _ _ | .makeFunc _ _ _ => true
  | .nilCheck x | .fieldAddr _ x _ => match e x with
    | some (.ptr _ _) => true
    | some v => v.all p
    | none => true
  | op => seenA p e op
def seen (p : Nat → Bool) (s : St) (op : Op) : Bool := seenE p (ev s) op
/-- What it does to the heap, told. -/
def Does (p : Nat → Bool) (s : St) (op : Op) (eff : Eff) : Prop :=
  match eff with
  | .none => True
  | .set a _ => p a = true ∧ a < s.h.length ∧ cidOf s op = some (a, false)
  | .push _ => cidOf s op = some (s.h.length, true)
def Eff.grows : Eff → Bool
  | .push _ => true
  | _ => false
theorem ev_h {t : List V} {h h2 : List AObj} (x : Operand) : ev ⟨t, h⟩ x = ev ⟨t, h2⟩ x := by cases x <;> rfl
theorem evs_congr {s s2 : St} : ∀ {l : List Operand}, (∀ x ∈ l, ev s2 x = ev s x) → evs s2 l = evs s l
  | [], _ => rfl
  | x :: l, h => by
    simp only [evs, h x (by simp), evs_congr (l := l) (fun y hy => h y (by simp [hy]))]
theorem evp_congr {s s2 : St} : ∀ {l : List (Nat × Operand)}, (∀ x ∈ l.map (·.2), ev s2 x = ev s x) → evp s2 l = evp s l
  | [], _ => rfl
  | (i, x) :: l, h => by
    simp only [evp, h x (by simp), evp_congr (l := l) (fun y hy => h y (by simp at hy ⊢; exact .inr hy))]
theorem evp_all {p : Nat → Bool} {s : St} : ∀ {l : List (Nat × Operand)} {vs : List (Nat × V)}, ((l.map (·.2)).all fun x => match ev s x with | some v => v.all p | none => true) = true → evp s l = some vs → allP p vs = true
  | [], vs, _, h => by simp [evp] at h; subst h; rfl
  | (i, x) :: l, vs, hs, h => by
    simp only [evp] at h
    simp only [List.map_cons, List.all_cons, Bool.and_eq_true] at hs
    split at h
    · rename_i v vs' h1 h2
      simp at h; subst h
      rw [h1] at hs
      simp only [allP, Bool.and_eq_true]
      exact ⟨hs.1, evp_all hs.2 h2⟩
    · cases h
theorem evs_all {p : Nat → Bool} {s : St} : ∀ {l : List Operand} {vs : List V}, (l.all fun x => match ev s x with | some v => v.all p | none => true) = true → evs s l = some vs → V.allL p vs = true
  | [], vs, _, h => by simp [evs] at h; subst h; rfl
  | x :: l, vs, hs, h => by
    simp only [evs] at h
    simp only [List.all_cons, Bool.and_eq_true] at hs
    split at h
    · rename_i v vs' h1 h2
      simp at h; subst h
      rw [h1] at hs
      simp only [V.allL, Bool.and_eq_true]
      exact ⟨hs.1, evs_all hs.2 h2⟩
    · cases h
theorem optV_congr {s s2 : St} {x : Option Operand} (h : ∀ y ∈ x.toArray, ev s2 y = ev s y) : optV s2 x = optV s x := by
  cases x with
  | none => rfl
  | some x => simp only [optV, h x (by simp)]
theorem opV_local {P : Program} {F : Facts P} {p : Nat → Bool} {s : St} {op : Op} {r : Option V} {h' : List AObj} (hp : seen p s op = true) (ht : tame s op = true) (e : opV F s op = some (r, h')) :
    ∃ eff : Eff, h' = eff.app s.h ∧ Does p s op eff ∧ ∀ s2 : St, (∀ x ∈ op.operands, ev s2 x = ev s x) → Same p s.h s2.h → (eff.grows = true → s2.h.length = s.h.length) → opV F s2 op = some (r, eff.app s2.h) := by
  have quiet : (∀ s2 : St, (∀ x ∈ op.operands, ev s2 x = ev s x) → Same p s.h s2.h → opV F s2 op = some (r, s2.h)) → h' = s.h → ∃ eff : Eff, h' = eff.app s.h ∧ Does p s op eff ∧ ∀ s2 : St, (∀ x ∈ op.operands, ev s2 x = ev s x) → Same p s.h s2.h → (eff.grows = true → s2.h.length = s.h.length) → opV F s2 op = some (r, eff.app s2.h) :=
    fun k hh => ⟨.none, hh, trivial, fun s2 h1 h2 _ => k s2 h1 h2⟩
  cases op with
  | move x | assign x =>
    simp only [opV, Op.operands] at e hp quiet ⊢
    split at e
    · rename_i v hv
      simp only [Option.some.injEq, Prod.mk.injEq] at e
      obtain ⟨rfl, rfl⟩ := e
      exact quiet (fun s2 h1 h2 => by simp only [h1 x (by simp), hv]) rfl
    · cases e
  | pick c a b =>
    simp only [opV, Op.operands] at e hp quiet ⊢
    split at e
    · rename_i h1 h2 h3
      simp only [Option.some.injEq, Prod.mk.injEq] at e
      obtain ⟨rfl, rfl⟩ := e
      exact quiet (fun s2 k1 k2 => by simp only [k1 c (by simp), k1 a (by simp), k1 b (by simp), h1, h2, h3]) rfl
    · cases e
  | alloc T =>
    simp only [seen, seenE, seenA] at hp
    simp only [opV, Op.operands] at e hp quiet ⊢
    split at e
    · rename_i cs hcs
      simp only [Option.some.injEq, Prod.mk.injEq] at e
      obtain ⟨rfl, rfl⟩ := e
      exact ⟨.push _, rfl, rfl, fun s2 _ _ hl => by simp only [hcs, hl rfl, Eff.app]⟩
    · cases e
  | box T x =>
    simp only [seen, seenE, seenA] at hp
    simp only [opV, Op.operands] at e hp quiet ⊢
    simp only [List.all_cons, List.all_nil, Bool.and_true] at hp
    split at e
    · rename_i v hv
      rw [hv] at hp
      split at e
      · rename_i cs hcs
        simp only [Option.some.injEq, Prod.mk.injEq] at e
        obtain ⟨rfl, rfl⟩ := e
        exact ⟨.push _, rfl, rfl, fun s2 k1 k2 hl => by simp only [k1 x (by simp), hv, flat_local k2 hp, hcs, hl rfl, Eff.app]⟩
      · cases e
    · cases e
  | build T ps =>
    simp only [seen, seenE, seenA] at hp
    simp only [opV, Op.operands] at e hp quiet ⊢
    split at e
    · rename_i vs hv
      split at e
      · rename_i v hb
        simp only [Option.some.injEq, Prod.mk.injEq] at e
        obtain ⟨rfl, rfl⟩ := e
        exact quiet (fun s2 k1 k2 => by simp only [evp_congr (s := s) (l := ps.toList) (fun y hy => k1 y (by simpa using hy)), hv, buildV_local k2 (evp_all hp hv), hb]) rfl
      · cases e
    · cases e
  | buildSlice T n ps =>
    simp only [seen, seenE, seenA] at hp
    simp only [opV, Op.operands] at e hp quiet ⊢
    split at e
    · rename_i vs hv
      split at e
      · rename_i v hb
        simp only [Option.some.injEq, Prod.mk.injEq] at e
        obtain ⟨rfl, rfl⟩ := e
        exact quiet (fun s2 k1 k2 => by simp only [evp_congr (s := s) (l := ps.toList) (fun y hy => k1 y (by simpa using hy)), hv, litV_local k2 (evp_all hp hv), hb]) rfl
      · cases e
    · cases e
  | load T x =>
    simp only [seen, seenE, seenA] at hp
    simp only [opV, Op.operands] at e hp quiet ⊢
    simp only [List.all_cons, List.all_nil, Bool.and_true] at hp
    split at e
    · rename_i v hv
      rw [hv] at hp
      split at e
      · rename_i y hy
        simp only [Option.some.injEq, Prod.mk.injEq] at e
        obtain ⟨rfl, rfl⟩ := e
        exact quiet (fun s2 k1 k2 => by simp only [k1 x (by simp), hv, loadV_local k2 hp, hy]) rfl
      · cases e
    · cases e
  | store T q x =>
    simp only [seen, seenE, seenA] at hp
    simp only [opV, Op.operands] at e hp quiet ⊢
    simp only [List.all_cons, List.all_nil, Bool.and_true, Bool.and_eq_true] at hp
    split at e
    · rename_i pv v hpv hv
      rw [hpv, hv] at hp
      split at e
      · rename_i h1 hst
        simp only [Option.some.injEq, Prod.mk.injEq] at e
        obtain ⟨rfl, rfl⟩ := e
        unfold storeH at hst
        split at hst
        · cases hst
        · rename_i xs hxs
          split at hst
          · cases hst
          · rename_i hT
            split at hst
            · rename_i i off
              simp only [V.all] at hp
              split at hst
              · rename_i T0 cs ho
                split at hst
                · rename_i hle
                  simp only [Option.some.injEq] at hst; subst hst
                  refine ⟨.set i _, rfl, ⟨hp.1, (List.getElem?_eq_some_iff.1 ho).1, by simp only [cidOf, cidE, hpv]⟩, fun s2 k1 k2 _ => ?_⟩
                  simp only [k1 q (by simp), k1 x (by simp), hpv, hv]
                  unfold storeH
                  simp only [flat_local k2 hp.2, hxs, if_neg hT, k2 i hp.1, ho, if_pos hle, Eff.app]
                · cases hst
              · cases hst
            · rename_i i n r off
              simp only [V.all] at hp
              split at hst
              · rename_i T0 sz rows ho
                split at hst
                · rename_i hn
                  split at hst
                  · rename_i row hr
                    split at hst
                    · rename_i hle
                      simp only [Option.some.injEq] at hst; subst hst
                      refine ⟨.set i _, rfl, ⟨hp.1, (List.getElem?_eq_some_iff.1 ho).1, by simp only [cidOf, cidE, hpv]⟩, fun s2 k1 k2 _ => ?_⟩
                      simp only [k1 q (by simp), k1 x (by simp), hpv, hv]
                      unfold storeH
                      simp only [flat_local k2 hp.2, hxs, if_neg hT, k2 i hp.1, ho, if_pos hn, hr, if_pos hle, Eff.app]
                    · cases hst
                  · cases hst
                · cases hst
              · cases hst
            · cases hst
      · cases e
    · cases e
  | nilCheck x =>
    simp only [opV, seen, seenE, Op.operands] at e hp quiet ⊢
    split at e
    · rename_i v hv
      rw [hv] at hp
      split at e
      · rename_i hs
        simp only [Option.some.injEq, Prod.mk.injEq] at e
        obtain ⟨rfl, rfl⟩ := e
        refine quiet (fun s2 k1 k2 => ?_) rfl
        have hl : solidV s2.h v = solidV s.h v := by
          cases v <;> first | rfl | exact solidV_local k2 hp
        simp only [k1 x (by simp), hv, hl, hs, if_true]
      · cases e
    · cases e
  | binOp b T x y T' =>
    simp only [seen, seenE, seenA] at hp
    simp only [opV, Op.operands] at e hp quiet ⊢
    split at e
    · rename_i v u hv hu
      split at e
      · rename_i z hz
        simp only [Option.some.injEq, Prod.mk.injEq] at e
        obtain ⟨rfl, rfl⟩ := e
        exact quiet (fun s2 k1 k2 => by simp only [k1 x (by simp), k1 y (by simp), hv, hu, hz]) rfl
      · cases e
    · cases e
  | unOp u T x =>
    simp only [seen, seenE, seenA] at hp
    simp only [opV, Op.operands] at e hp quiet ⊢
    split at e
    · rename_i b hv
      simp only [Option.some.injEq, Prod.mk.injEq] at e
      obtain ⟨rfl, rfl⟩ := e
      exact quiet (fun s2 k1 k2 => by simp only [k1 x (by simp), hv]) rfl
    · rename_i k n hv
      simp only [Option.some.injEq, Prod.mk.injEq] at e
      obtain ⟨rfl, rfl⟩ := e
      exact quiet (fun s2 k1 k2 => by simp only [k1 x (by simp), hv]) rfl
    · cases e
  | makeFunc f fs cs =>
    cases f with
    | func f =>
      simp only [opV, Op.operands] at e hp quiet ⊢
      split at e
      · rename_i a b ha hb
        simp only [Option.some.injEq, Prod.mk.injEq] at e
        obtain ⟨rfl, rfl⟩ := e
        exact quiet (fun s2 k1 k2 => by
          simp only [evs_congr (s := s) (l := fs.toList) (fun y hy => k1 y (by simp at hy ⊢; exact .inl hy)), evs_congr (s := s) (l := cs.toList) (fun y hy => k1 y (by simp at hy ⊢; exact .inr hy)), ha, hb]) rfl
      · cases e
    | _ => simp [opV] at e
  | makeSlice T n c =>
    simp only [seen, seenE, seenA] at hp
    simp only [opV, Op.operands] at e hp quiet ⊢
    split at e
    · rename_i k k' hk hk'
      split at e
      · rename_i hkk
        split at e
        · rename_i v h1 hm
          simp only [Option.some.injEq, Prod.mk.injEq] at e
          obtain ⟨rfl, rfl⟩ := e
          unfold makeV at hm
          split at hm
          · rename_i E0 k1 he heq
            split at hm
            · rename_i z hz
              split at hm
              · rename_i hb
                simp only [Option.some.injEq, Prod.mk.injEq] at hm
                obtain ⟨rfl, rfl⟩ := hm
                refine ⟨.push _, rfl, rfl, fun s2 q1 q2 hl => ?_⟩
                cases heq
                simp only [q1 n (by simp), q1 c (by simp), hk, hk', if_pos hkk]
                unfold makeV
                simp only [he, hz, if_pos hb, hl rfl, Eff.app]
              · cases hm
            · cases hm
          · cases hm
        · cases e
      · cases e
    · cases e
  | slice T x lo hi mx =>
    simp only [seen, seenE, seenA] at hp
    cases mx with
    | none =>
      simp only [opV, Op.operands] at e hp quiet ⊢
      split at e
      · rename_i v l u hv hl hu
        have hpx : v.all p = true := by
          simp only [Array.toList_append, List.all_append, List.all_cons, List.all_nil, Bool.and_true, Bool.and_eq_true, hv] at hp
          exact hp.1.1.1
        split at e
        · rename_i y hy
          simp only [Option.some.injEq, Prod.mk.injEq] at e
          obtain ⟨rfl, rfl⟩ := e
          exact quiet (fun s2 k1 k2 => by
            simp only [sliceD_local k2 hpx, k1 x (by simp), optV_congr (s := s) (x := lo) (fun y hy => k1 y (by simp at hy ⊢; exact .inr (.inl hy))), optV_congr (s := s) (x := hi) (fun y hy => k1 y (by simp at hy ⊢; exact .inr (.inr hy))), hv, hl, hu, hy]) rfl
        · cases e
      · cases e
    | some m => simp [opV] at e
  | fieldAddr T x f =>
    simp only [opV, seen, seenE, Op.operands] at e hp quiet ⊢
    split at e
    · rename_i v hv
      rw [hv] at hp
      split at e
      · rename_i y hy
        simp only [Option.some.injEq, Prod.mk.injEq] at e
        obtain ⟨rfl, rfl⟩ := e
        refine quiet (fun s2 k1 k2 => ?_) rfl
        have hl : fieldV P s2.h T v f = fieldV P s.h T v f := by
          cases v <;> first | exact fieldV_local k2 hp | (simp only [fieldV, shiftV])
        simp only [k1 x (by simp), hv, hl, hy]
      · cases e
    · cases e
  | field T x f =>
    simp only [seen, seenE, seenA] at hp
    simp only [opV, Op.operands] at e hp quiet ⊢
    split at e
    · rename_i v hv
      split at e
      · rename_i y hy
        simp only [Option.some.injEq, Prod.mk.injEq] at e
        obtain ⟨rfl, rfl⟩ := e
        exact quiet (fun s2 k1 k2 => by simp only [k1 x (by simp), hv, hy]) rfl
      · cases e
    · cases e
  | indexAddr T x i =>
    simp only [seen, seenE, seenA] at hp
    simp only [opV, Op.operands] at e hp quiet ⊢
    simp only [List.all_cons, List.all_nil, Bool.and_true, Bool.and_eq_true] at hp
    split at e
    · rename_i v k hv hk
      rw [hv, hk] at hp
      split at e
      · rename_i y hy
        simp only [Option.some.injEq, Prod.mk.injEq] at e
        obtain ⟨rfl, rfl⟩ := e
        exact quiet (fun s2 k1 k2 => by simp only [k1 x (by simp), k1 i (by simp), hv, hk, indexAddrV_local k2 hp.1, hy]) rfl
      · cases e
    · cases e
  | index T x i =>
    simp only [seen, seenE, seenA] at hp
    simp only [opV, Op.operands] at e hp quiet ⊢
    split at e
    · rename_i v k hv hk
      split at e
      · rename_i y hy
        simp only [Option.some.injEq, Prod.mk.injEq] at e
        obtain ⟨rfl, rfl⟩ := e
        exact quiet (fun s2 k1 k2 => by simp only [k1 x (by simp), k1 i (by simp), hv, hk, hy]) rfl
      · cases e
    · cases e
  | extract x i =>
    simp only [seen, seenE, seenA] at hp
    simp only [opV, Op.operands] at e hp quiet ⊢
    split at e
    · rename_i cs hv
      split at e
      · rename_i y hy
        simp only [Option.some.injEq, Prod.mk.injEq] at e
        obtain ⟨rfl, rfl⟩ := e
        exact quiet (fun s2 k1 k2 => by simp only [k1 x (by simp), hv, hy]) rfl
      · cases e
    · cases e
  | makeInterface T x =>
    simp only [seen, seenE, seenA] at hp
    simp only [opV, Op.operands] at e hp quiet ⊢
    split at e
    · rename_i v fs hv hu
      simp only [Option.some.injEq, Prod.mk.injEq] at e
      obtain ⟨rfl, rfl⟩ := e
      exact quiet (fun s2 k1 k2 => by simp only [k1 x (by simp), hv, hu]) rfl
    · cases e
  | typeAssert x xT T ok => simp [tame, tameE] at ht
  | makeMap T r => simp [tame, tameE] at ht
  | insert T m k x => simp [tame, tameE] at ht
  | mapUpdate T m k x => simp [tame, tameE] at ht
  | lookup T x k ok => simp [tame, tameE] at ht
  | call c =>
    simp only [seen, seenE, seenA] at hp
    obtain ⟨callee, args, ts⟩ := c
    cases callee with
    | builtin b =>
      rcases args with ⟨args⟩
      rcases ts with ⟨ts⟩
      cases b with
      | len =>
        rcases args with _ | ⟨x, _ | ⟨y, l⟩⟩
        · simp [opV] at e
        · rcases ts with _ | ⟨T, _ | ⟨T', l⟩⟩
          · simp [opV] at e
          · simp only [opV, Op.operands, Call.operands] at e hp quiet ⊢
            simp only [List.all_cons, List.all_nil, Bool.and_true, Array.toList_empty, Array.toList_append, List.nil_append] at hp
            split at e
            · rename_i v hv
              rw [hv] at hp
              split at e
              · rename_i y hy
                simp only [Option.some.injEq, Prod.mk.injEq] at e
                obtain ⟨rfl, rfl⟩ := e
                exact quiet (fun s2 k1 k2 => by simp only [k1 x (by simp), hv, lenV_local k2 hp, hy]) rfl
              · cases e
            · cases e
          · simp [opV] at e
        · simp [opV] at e
      | append =>
        rcases args with _ | ⟨x, _ | ⟨y, _ | ⟨z, l⟩⟩⟩
        · simp [opV] at e
        · simp [opV] at e
        · rcases ts with _ | ⟨T, _ | ⟨T', _ | ⟨T'', l⟩⟩⟩
          · simp [opV] at e
          · simp [opV] at e
          · simp only [opV, Op.operands, Call.operands] at e hp quiet ⊢
            simp only [List.all_cons, List.all_nil, Bool.and_true, Array.toList_append, List.nil_append, Bool.and_eq_true] at hp
            simp only [tame, tameE] at ht
            split at e
            · rename_i v u hv hu
              rw [hv, hu] at hp
              rw [hu] at ht
              split at e
              · rename_i hTT
                split at e
                · rename_i z h1 hap
                  simp only [Option.some.injEq, Prod.mk.injEq] at e
                  obtain ⟨rfl, rfl⟩ := e
                  have hsrc : ∀ (sz : Nat) (hh : List AObj), srcRows hh sz u = srcRows s.h sz u := fun sz hh => by
                    cases u <;> simp_all [srcRows]
                  have hall : ∀ (sz : Nat) (rows : List (List V)), srcRows s.h sz u = some rows → V.allL p rows.flatten = true := fun sz rows hr => by
                    cases u with
                    | nil => simp only [srcRows] at hr; simp at hr; subst hr; simp [V.allL]
                    | sl sz' rows' =>
                      simp only [srcRows] at hr
                      split at hr
                      · simp at hr; subst hr
                        simpa [V.all, allR_flatten] using hp.2
                      · cases hr
                    | arr i n => simp at ht
                    | _ => simp only [srcRows] at hr; cases hr
                  by_cases hd : ∃ i n k, v = .arrd i n k
                  · obtain ⟨i, n, k, rfl⟩ := hd
                    simp only [appendD] at hap
                    split at hap
                    · rename_i E sz hE
                      split at hap
                      · rename_i rows zs E' sz' old hrows hzs ho
                        split at hap
                        · rename_i hc
                          simp only [Option.some.injEq, Prod.mk.injEq] at hap
                          obtain ⟨rfl, rfl⟩ := hap
                          simp only [V.all] at hp
                          refine ⟨.set i _, rfl, ⟨hp.1, (List.getElem?_eq_some_iff.1 ho).1, by simp only [cidOf, cidE, hv]⟩, fun s2 k1 k2 hl => ?_⟩
                          simp only [k1 x (by simp), k1 y (by simp), hv, hu, if_pos hTT]
                          have hc2 := hc
                          rw [← ones_local k2 (hall sz rows hrows)] at hc2
                          simp only [appendD, hE, hsrc, hrows, hzs, k2 i hp.1, ho, if_pos hc2, Eff.app]
                        · cases hap
                      · cases hap
                    · cases hap
                  have hD : ∀ hh, appendD P hh T v u = appendV P hh T v u := fun hh => by
                    cases v <;> first | rfl | exact absurd ⟨_, _, _, rfl⟩ hd
                  rw [hD] at hap
                  unfold appendV at hap
                  split at hap
                  · rename_i E sz hE
                    split at hap
                    · rename_i rows zs hrows hzs
                      split at hap
                      · rename_i hb
                        have hb2 : ∀ s2 : St, Same p s.h s2.h → (zs.length = sz ∧ 0 < P.bytesOf E ∧ rows.flatten.all (V.one s2.h) = true) := fun s2 k2 => ⟨hb.1, hb.2.1, by rw [ones_local k2 (hall sz rows hrows)]; exact hb.2.2⟩
                        split at hap
                        · split at hap
                          · simp only [Option.some.injEq, Prod.mk.injEq] at hap
                            obtain ⟨rfl, rfl⟩ := hap
                            refine quiet (fun s2 k1 k2 => ?_) rfl
                            simp only [k1 x (by simp), k1 y (by simp), hv, hu, if_pos hTT, hD]
                            unfold appendV
                            simp only [hE, hsrc, hrows, hzs, if_pos (hb2 s2 k2)]
                          · rename_i i n
                            split at hap
                            · rename_i E' sz' old ho
                              split at hap
                              · rename_i hc
                                simp only [Option.some.injEq, Prod.mk.injEq] at hap
                                obtain ⟨rfl, rfl⟩ := hap
                                refine quiet (fun s2 k1 k2 => ?_) rfl
                                simp only [V.all] at hp
                                simp only [k1 x (by simp), k1 y (by simp), hv, hu, if_pos hTT, hD]
                                unfold appendV
                                simp only [hE, hsrc, hrows, hzs, if_pos (hb2 s2 k2), k2 i hp.1, ho, if_pos hc]
                              · cases hap
                            · cases hap
                          · cases hap
                        · rename_i hne
                          split at hap
                          · split at hap
                            · rename_i hsz
                              simp only [Option.some.injEq, Prod.mk.injEq] at hap
                              obtain ⟨rfl, rfl⟩ := hap
                              refine ⟨.push _, rfl, by simp only [Does, cidOf, cidE, hv], fun s2 k1 k2 hl => ?_⟩
                              simp only [k1 x (by simp), k1 y (by simp), hv, hu, if_pos hTT, hD]
                              unfold appendV
                              simp only [hE, hsrc, hrows, hzs, if_pos (hb2 s2 k2), if_pos hsz, hl rfl, Eff.app]
                            · cases hap
                          · rename_i i n
                            split at hap
                            · rename_i E' sz' old ho
                              split at hap
                              · rename_i hc
                                simp only [Option.some.injEq, Prod.mk.injEq] at hap
                                obtain ⟨rfl, rfl⟩ := hap
                                simp only [V.all] at hp
                                refine ⟨.set i _, rfl, ⟨hp.1, (List.getElem?_eq_some_iff.1 ho).1, by simp only [cidOf, cidE, hv]⟩, fun s2 k1 k2 hl => ?_⟩
                                simp only [k1 x (by simp), k1 y (by simp), hv, hu, if_pos hTT, hD]
                                unfold appendV
                                simp only [hE, hsrc, hrows, hzs, if_pos (hb2 s2 k2), k2 i hp.1, ho, if_pos hc, Eff.app]
                              · cases hap
                            · cases hap
                          · cases hap
                      · cases hap
                    · cases hap
                  · cases hap
                · cases e
              · cases e
            · cases e
          · simp [opV] at e
        · simp [opV] at e
      | max =>
        rcases args with _ | ⟨x, _ | ⟨y, _ | ⟨z, l⟩⟩⟩
        · simp [opV] at e
        · simp [opV] at e
        · simp only [opV, Op.operands, Call.operands] at e hp quiet ⊢
          split at e
          · rename_i k a k' b hv hu
            simp only [Option.some.injEq, Prod.mk.injEq] at e
            obtain ⟨rfl, rfl⟩ := e
            exact quiet (fun s2 k1 k2 => by simp only [k1 x (by simp), k1 y (by simp), hv, hu]) rfl
          · cases e
        · simp [opV] at e
      | min =>
        rcases args with _ | ⟨x, _ | ⟨y, _ | ⟨z, l⟩⟩⟩
        · simp [opV] at e
        · simp [opV] at e
        · simp only [opV, Op.operands, Call.operands] at e hp quiet ⊢
          split at e
          · rename_i k a k' b hv hu
            simp only [Option.some.injEq, Prod.mk.injEq] at e
            obtain ⟨rfl, rfl⟩ := e
            exact quiet (fun s2 k1 k2 => by simp only [k1 x (by simp), k1 y (by simp), hv, hu]) rfl
          · cases e
        · simp [opV] at e
      | _ => simp [opV] at e
    | _ => simp [opV] at e
  | _ => simp [opV] at e
end Go.Ab
