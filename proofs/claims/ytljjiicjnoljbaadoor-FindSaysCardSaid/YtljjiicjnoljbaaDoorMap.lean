/-
  Maps that a call makes, as Lean functions from keys to elements: made, looked up, written, ranged over. No program.
-/
import Derived.Test.YtljjiicjnoljbaaDoorWk
import Derived.Maps.RangeWalk
import Derived.Maps.OwnSet
namespace Go.Proofs.WK
open Go.RowKit Go.Maps

/-- Keys of type k as Lean has them. -/
structure KT (P : Program) (k : TypeId) (κ : Type) where
  kv : κ → Value
  kf : κ → Lit
  okk : κ → Prop
  law : Keyed P k
  key : ∀ x, okk x → keyOf P k (kv x) = some (kf x)
  inv : ∀ v kl, keyOf P k v = some kl → ∃ x, okk x ∧ v = kv x ∧ kl = kf x
  inj : ∀ x y, okk x → okk y → kf x = kf y → x = y
/-- Elements of type e as Lean has them. -/
structure ET (P : Program) (e : TypeId) (ε : Type) where
  ev : ε → Value
  ed : ε → DataW Unit
  oke : ε → Prop
  zero : ε
  okz : oke zero
  elem : ∀ x, oke x → plainElem P e (ev x) = some (ed x, [])
  inv : ∀ v z, plainElem P e v = some z → ∃ x, oke x ∧ v = ev x ∧ z = (ed x, [])
  inj : ∀ x y, ed x = ed y → x = y
  hz : ∀ w, (zeroValue e).run P w = .ok (ev zero) w

noncomputable def i64T {P : Program} {k : TypeId} (hk : P.underlying k = some (.int .i64)) : KT P k Int where
  kv := Value.int .i64
  kf := Lit.int .i64
  okk := fun x => (Lit.int .i64 x).wf = true
  law := int_keyed hk
  key := fun _ h => keyOf_int_mk hk h
  inv := fun v kl h => by obtain ⟨x, rfl, rfl, hw⟩ := Maps.keyOf_int_inv hk h; exact ⟨x, hw, rfl, rfl⟩
  inj := fun _ _ _ _ h => by injection h
theorem i64_wf {x : Int} (h0 : -9223372036854775808 ≤ x) (h1 : x ≤ 9223372036854775807) : (Lit.int .i64 x).wf = true := by
  simp [Lit.wf, IntKind.min, IntKind.max, IntKind.signed, IntKind.bits]; omega
noncomputable def strT {P : Program} {k : TypeId} (hk : P.underlying k = some .string) : KT P k ByteArray where
  kv := Value.string
  kf := fun s => Lit.string s.data.toList
  okk := fun s => s.size ≤ maxLen
  law := string_keyed hk
  key := fun _ h => by simp [keyOf, hk, mapKey, h]
  inv := fun v kl h => by
    cases v <;> simp [keyOf, hk, mapKey] at h
    obtain ⟨h, rfl⟩ := h
    exact ⟨_, h, rfl, rfl⟩
  inj := fun x y _ _ h => by
    cases x; cases y
    injection h with h
    simp at h
    subst h
    rfl
noncomputable def boolE {P : Program} {e : TypeId} (he : P.underlying e = some .bool) (hz : ∀ w, (zeroValue e).run P w = .ok (.bool false) w) : ET P e Bool where
  ev := Value.bool
  ed := fun x => .lit (.bool x)
  oke := fun _ => True
  zero := false
  okz := trivial
  elem := fun x _ => plainElem_bool he x
  inv := fun v z h => by cases v <;> simp [plainElem, he] at h; subst h; exact ⟨_, trivial, rfl, rfl⟩
  inj := fun _ _ h => by injection h with h; injection h
  hz := hz
noncomputable def i64E {P : Program} {e : TypeId} (he : P.underlying e = some (.int .i64)) (hz : ∀ w, (zeroValue e).run P w = .ok (.int .i64 0) w) : ET P e Int where
  ev := Value.int .i64
  ed := fun x => .lit (.int .i64 x)
  oke := fun x => (Lit.int .i64 x).wf = true
  zero := 0
  okz := by decide
  elem := fun x h => plainElem_int he h
  inv := fun v z h => by obtain ⟨a, rfl, rfl, hw⟩ := plainElem_int_inv he h; exact ⟨a, hw, rfl, rfl⟩
  inj := fun _ _ h => by injection h with h; injection h
  hz := hz
noncomputable def strE {P : Program} {e : TypeId} (he : P.underlying e = some .string) (hz : ∀ w, (zeroValue e).run P w = .ok (.string ByteArray.empty) w) : ET P e ByteArray where
  ev := Value.string
  ed := fun x => .lit (.string x.data.toList)
  oke := fun x => x.size ≤ maxLen
  zero := ByteArray.empty
  okz := by decide
  elem := fun x h => plainElem_string he h
  inv := fun v z h => by cases v <;> simp [plainElem, he] at h; obtain ⟨h, rfl⟩ := h; exact ⟨_, h, rfl, rfl⟩
  inj := fun x y h => by
    cases x; cases y
    injection h with h
    injection h with h
    simp at h
    subst h
    rfl
  hz := hz

section
variable {P : Program} {k e t : TypeId} {κ ε : Type}
/-- What a datum says, key by key. -/
def Says (K : KT P k κ) (E : ET P e ε) (D : DataW Unit) (f : κ → Option ε) : Prop :=
  ∀ x, K.okk x → has D (K.kf x) = (f x).isSome ∧ ∀ z, D.atKey (K.kf x) z = match f x with | some y => E.ed y | none => z
/-- Block b is a map of at most n entries that says f. -/
def MapIs (K : KT P k κ) (E : ET P e ε) (w : World) (b n : Nat) (f : κ → Option ε) : Prop := ∃ D, w.ownsMap P k (plainElem P e) b n D ∧ Says K E D f
variable {K : KT P k κ} {E : ET P e ε} {w w' : World} {b n : Nat} {f : κ → Option ε}
theorem MapIs.made (K : KT P k κ) (E : ET P e ε) (w : World) : MapIs K E (w.alloc (.map #[] 0)) w.heap.size 0 (fun _ => none) :=
  ⟨_, World.ownsMap_made w P k _, fun _ _ => ⟨rfl, fun _ => rfl⟩⟩
theorem MapIs.kept (h : MapIs K E w b n f) {row : Option Nat} (hg : w.grownBy w' row) (hne : some b ≠ row) : MapIs K E w' b n f := by
  obtain ⟨D, h1, h2⟩ := h
  exact ⟨D, h1.kept hg hne, h2⟩
theorem MapIs.lt (h : MapIs K E w b n f) : b < w.heap.size := by obtain ⟨D, h1, _⟩ := h; exact h1.lt
theorem MapIs.below (h : MapIs K E w b n f) (hb : Below w.heap.size w w') : MapIs K E w' b n f :=
  h.kept (row := none) ⟨hb.os, hb.tape, hb.output, hb.size, fun i hi _ => hb.block i hi⟩ (by simp)
theorem MapIs.alloc (h : MapIs K E w b n f) (o : Obj) : MapIs K E (w.alloc o) b n f := h.kept (World.grownBy_alloc w o none) (by simp)
theorem says_put [DecidableEq κ] {D : DataW Unit} (hD : IsMap D) (h : Says K E D f) (x : κ) (hx : K.okk x) (y : ε) : Says K E (D.put (K.kf x) (E.ed y)) (fun z => if z = x then some y else f z) := by
  intro z hz
  have hk : WideAt.IsKeyLit (K.kf x) := K.law.key (K.key x hx)
  show has _ _ = (if z = x then some y else f z).isSome ∧ ∀ d : DataW Unit, _ = match (if z = x then some y else f z) with | some y => E.ed y | none => d
  by_cases he : z = x
  · subst he
    rw [if_pos rfl]
    exact ⟨has_put_same hD hk _, fun d => atKey_put_same hD hk _ _⟩
  · have hne : K.kf z ≠ K.kf x := fun e => he (K.inj _ _ hz hx e)
    rw [if_neg he]
    refine ⟨by rw [has_put_other hne]; exact (h z hz).1, fun d => by rw [atKey_put_other hne]; exact (h z hz).2 d⟩

variable {ops : Array Oper} {rest : List Oper} {o : Oper} {a : Act} {Q : Exit → Act → World → Prop}
/-- 'm[x]'. -/
theorem map_look (hg : o.guard = none) (m x : Operand) (hop : o.op = Op.lookup t m x false) (ht : P.underlying t = some (.map k e)) (hm : a.eval m = .map (some b)) (h : MapIs K E w b n f) (key : κ) (hx : a.eval x = K.kv key) (hkey : K.okk key)
    (hK : wpList P ops Q rest (a.put o.dst (E.ev ((f key).getD E.zero))) w) : wpList P ops Q (o :: rest) a w := by
  obtain ⟨D, h1, h2⟩ := h
  obtain ⟨v, ps, hrun, hR⟩ := h1.lookup K.law ht (E.hz w) (E.elem _ E.okz) (K.key key hkey)
  obtain ⟨y, _, rfl, e1⟩ := E.inv _ _ hR
  rw [(h2 key hkey).2] at e1
  injection e1 with e1 _
  have e2 : y = (f key).getD E.zero := by
    cases hf : f key with
    | none => rw [hf] at e1; exact (E.inj _ _ e1).symm
    | some u => rw [hf] at e1; exact (E.inj _ _ e1).symm
  subst e2
  refine wpList_plain hg fun K' hK' => ?_
  unfold Oper.wp
  simp [execOp, hop, hm, hx, hrun, Result.andThen]
  exact hK' _ _ hK
/-- What 'm[x]' answers. -/
theorem map_run {t : TypeId} (ht : P.underlying t = some (.map k e)) (h : MapIs K E w b n f) (key : κ) (hkey : K.okk key) :
    (Instr.lookup t (.map (some b)) (K.kv key) false).run P w = .ok (E.ev ((f key).getD E.zero)) w := by
  obtain ⟨D, h1, h2⟩ := h
  obtain ⟨v, ps, hrun, hR⟩ := h1.lookup K.law ht (E.hz w) (E.elem _ E.okz) (K.key key hkey)
  obtain ⟨y, _, rfl, e1⟩ := E.inv _ _ hR
  rw [(h2 key hkey).2] at e1
  injection e1 with e1 _
  have e2 : y = (f key).getD E.zero := by
    cases hf : f key with
    | none => rw [hf] at e1; exact (E.inj _ _ e1).symm
    | some u => rw [hf] at e1; exact (E.inj _ _ e1).symm
  subst e2
  exact hrun
/-- 'm[x] = y'. -/
theorem map_put [DecidableEq κ] (hg : o.guard = none) (m x v : Operand) (hop : o.op = Op.mapUpdate t m x v) (ht : P.underlying t = some (.map k e)) (hm : a.eval m = .map (some b)) (h : MapIs K E w b n f) (hn : n < maxLen) (key : κ) (hx : a.eval x = K.kv key) (hkey : K.okk key)
    (y : ε) (hv : a.eval v = E.ev y) (hy : E.oke y)
    (hK : ∀ w', MapIs K E w' b (n + 1) (fun z => if z = key then some y else f z) → w.grownBy w' (some b) → wpList P ops Q rest (a.put o.dst undef) w') : wpList P ops Q (o :: rest) a w := by
  obtain ⟨D, h1, h2⟩ := h
  have hD : IsMap D := by obtain ⟨es, clock, _, _, _, rfl⟩ := h1; exact ⟨_, rfl⟩
  refine wpList_mapUpdate_own w hg m x v t hop k e K.law ht (plainElem P e) b n D hm h1 hn _ _ (K.kf key) hx hv (K.key key hkey) (E.ed y) [] (E.elem y hy) ?_
  intro w' r1 r2
  exact hK w' ⟨_, r1, says_put hD h2 key hkey y⟩ r2

/-- 'for x, y := range m' under way: left tells which keys are still to come. -/
def Ranging (K : KT P k κ) (E : ET P e ε) (w : World) (b r n : Nat) (f : κ → Option ε) (left : κ → Prop) : Prop :=
  ∃ D lf cnt, w.ranges P k (plainElem P e) b r n D lf cnt ∧ Says K E D f ∧ ∀ x, K.okk x → (lf (K.kf x) = true ↔ left x)
theorem Ranging.map {r : Nat} {left : κ → Prop} (h : Ranging K E w b r n f left) : MapIs K E w b n f := by
  obtain ⟨D, lf, cnt, h1, h2, _⟩ := h
  exact ⟨D, h1.owns, h2⟩
theorem Ranging.kept {r : Nat} {left : κ → Prop} (h : Ranging K E w b r n f left) {row : Option Nat} (hg : w.grownBy w' row) (hb : some b ≠ row) (hr : some r ≠ row) : Ranging K E w' b r n f left := by
  obtain ⟨D, lf, cnt, h1, h2, h3⟩ := h
  exact ⟨D, lf, cnt, h1.kept hg hb hr, h2, h3⟩
theorem Ranging.lt {r : Nat} {left : κ → Prop} (h : Ranging K E w b r n f left) : r < w.heap.size := by obtain ⟨D, lf, cnt, h1, _⟩ := h; exact h1.lt
theorem Ranging.below {r : Nat} {left : κ → Prop} (h : Ranging K E w b r n f left) (hb : Below w.heap.size w w') : Ranging K E w' b r n f left :=
  h.kept (row := none) ⟨hb.os, hb.tape, hb.output, hb.size, fun i hi _ => hb.block i hi⟩ (by simp) (by simp)
theorem Ranging.left_below {r : Nat} {left : κ → Prop} (h : Ranging K E w b r n f left) (hb : Below w.heap.size w w') : w'.rangeLeft b r = w.rangeLeft b r := by
  obtain ⟨D, lf, cnt, h1, _⟩ := h
  have h2 := h1.kept (w' := w') (row := none) ⟨hb.os, hb.tape, hb.output, hb.size, fun i hi _ => hb.block i hi⟩ (by simp) (by simp)
  rw [h1.left_eq, h2.left_eq]
/-- 'range m'. -/
theorem map_range (hg : o.guard = none) (m : Operand) (hop : o.op = Op.range t m) (ht : P.underlying t = some (.map k e)) (hm : a.eval m = .map (some b)) (h : MapIs K E w b n f)
    (hK : ∀ w', Ranging K E w' b w.heap.size n f (fun x => (f x).isSome = true) → Below w.heap.size w w' → wpList P ops Q rest (a.put o.dst (.pointer (some ⟨w.heap.size, 0, none⟩))) w') : wpList P ops Q (o :: rest) a w := by
  obtain ⟨D, h1, h2⟩ := h
  refine wpList_range_own w hg m t hop k e K.law ht (plainElem P e) b n D hm h1 ?_
  intro w' r1 r2 _
  exact hK w' ⟨D, _, _, r1, h2, fun x hx => by rw [(h2 x hx).1]⟩ ⟨r2.os, r2.tape, r2.output, r2.size, fun i hi => r2.block i hi (by simp)⟩
/-- The step: nothing is left, or a key has come. -/
theorem map_next {r : Nat} {left : κ → Prop} (hg : o.guard = none) (it : Operand) (hop : o.op = Op.next it false) (hit : a.eval it = .pointer (some ⟨r, 0, none⟩)) (h : Ranging K E w b r n f left)
    (hDone : (∀ x, K.okk x → ¬ left x) → wpList P ops Q rest (a.put o.dst (.tuple #[.bool false])) w)
    (hMore : ∀ (x : κ) (y : ε) (w' : World), K.okk x → left x → f x = some y → Ranging K E w' b r n f (fun z => left z ∧ z ≠ x) → w'.rangeLeft b r < w.rangeLeft b r →
      w.grownBy w' (some r) → w'.heap.size = w.heap.size → (Instr.entry (.pointer (some ⟨r, 0, none⟩))).run P w' = .ok (.tuple #[K.kv x, E.ev y]) w' → wpList P ops Q rest (a.put o.dst (.tuple #[.bool true, K.kv x, E.ev y])) w') :
    wpList P ops Q (o :: rest) a w := by
  obtain ⟨D, lf, cnt, h1, h2, h3⟩ := h
  refine wpList_next_ranges w hg it hop k K.law (plainElem P e) K.kv E.ev (fun key kl hkey => by obtain ⟨x, _, rfl, _⟩ := K.inv _ _ hkey; exact ⟨x, rfl⟩) (fun v y hv => by obtain ⟨c, _, rfl, _⟩ := E.inv _ _ hv; exact ⟨c, rfl⟩)
    b r n D lf cnt hit h1 (fun _ hl => hDone fun x hx hlx => by have := (h3 x hx).2 hlx; rw [hl] at this; cases this) ?_
  intro x y kl z w' cnt' hkey hlk hR hat hrg hlt hgr hsz hen
  obtain ⟨x', hx, e1, e2⟩ := K.inv _ _ hkey
  subst e2
  obtain ⟨y', hy', e3, rfl⟩ := E.inv _ _ hR
  have hfx : f x' = some y' := by
    have h5 := h2 x' hx
    cases hf : f x' with
    | none =>
      rw [hf] at h5
      have a1 := (h5.2 (.lit (.bool true))).symm.trans (hat _)
      have a2 := (h5.2 (.lit (.bool false))).symm.trans (hat _)
      rw [← a2] at a1
      cases a1
    | some u =>
      rw [hf] at h5
      have a1 := (h5.2 (.lit (.bool true))).symm.trans (hat _)
      rw [E.inj _ _ a1]
  rw [e1, e3] at hen ⊢
  refine hMore x' y' w' hx ((h3 x' hx).1 hlk) hfx ⟨D, _, cnt', hrg, h2, fun u hu => ?_⟩ (by rw [hrg.left_eq, h1.left_eq]; exact hlt) hgr hsz hen
  simp only [Bool.and_eq_true, Bool.not_eq_true']
  rw [h3 u hu]
  refine and_congr_right fun _ => ?_
  constructor
  · rintro h5 rfl
    rw [WideAt.sameKey_self (K.law.key (K.key _ hu))] at h5
    cases h5
  · intro h5
    exact Maps.sameKey_ne fun e => h5 (K.inj _ _ hu hx e)
end
end Go.Proofs.WK
