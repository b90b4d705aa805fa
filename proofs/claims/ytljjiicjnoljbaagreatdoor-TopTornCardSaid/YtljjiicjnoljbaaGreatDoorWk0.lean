/-
  The base of this session's walks, of no program: what a value's cells say (Rp), rows that are read (Row, Sl), rows of the call's own (Own), append, boxes.
  A struct variable: a block known whole. No program.
  Rows of the call's own, written in place: one element, and what lies behind a cut. No program.
  append(v, x) onto a row of the call's own, in whatever world: at a plain list, and at a step of a region that draws. No program.
  A region that draws its order: one case an operation, not one an order. Of no program.
  Maps that a call makes, as Lean functions from keys to elements: made, looked up, written, ranged over. No program.
-/
import Derived.Below
import Derived.Deep.Draws
import Derived.Deep.AppendLies
import Derived.Maps.AppendAt
import Derived.OwnWalk
import Derived.Laws.MakeOwn
import Derived.Laws.OwnMore
import Derived.Deep.OwnRows
import Derived.Tactics
import Derived.Laws.Slices
import Derived.WalkKit
import Derived.KernelRfl
import Derived.RowKit3
import Derived.Deep.LoopGhost
import Derived.Deep.QuietTactic
import Derived.BigQuiet
import Derived.WideLaws
import Derived.Deep.DeepCutAuto
import Derived.Deep.CutBlock
import Derived.Deep.RegionHeld3
import Derived.Laws.Rows
import Derived.Lib.AppendStr
import Derived.WalkSpells
import Derived.WalkLawsBesides
import Derived.RowKit
import Derived.Laws.IdiomCopy
import Derived.Deep.Upon
import Derived.Orders
import Derived.RegionTactic
import Derived.Maps.RangeWalk
import Derived.Maps.OwnSet
namespace Go.Proofs.WK
open Go.RowKit

/-- A fact that the walk's simp doesn't look into. -/
structure Aside (p : Prop) : Prop where mk :: (out : p)

theorem add_block (a : Addr) (i : Nat) : (a.add i).block = a.block := by unfold Addr.add; split <;> rfl
theorem add_add (a : Addr) (i j : Nat) : (a.add i).add j = a.add (i + j) := by
  unfold Addr.add
  by_cases hi : i = 0 <;> by_cases hj : j = 0 <;> simp [hi, hj, Nat.add_assoc]
theorem add_plain (g j : Nat) : (⟨g, 0, none⟩ : Addr).add j = ⟨g, j, none⟩ := by unfold Addr.add; split <;> simp_all
/-- A field's address as the walk spells it. -/
theorem add_field (ad : Addr) (m j : Nat) (hj : 0 < j) : ad.add (m + j) = ⟨(ad.add m).block, (ad.add m).off + j, none⟩ := by
  unfold Addr.add
  by_cases hm : m = 0
  · subst hm
    simp [Nat.ne_of_gt hj]
  · simp [hm, Nat.add_assoc]

/-! ### the world -/
theorem below_alloc {B : Nat} {w W : World} (h : Below B w W) (o : Obj) (hB : B ≤ W.heap.size) : Below B w (W.alloc o) := h.alloc hB o
theorem below_drewN {B : Nat} {w W : World} (h : Below B w W) (n : Nat) : Below B w (W.drewN n) := ⟨h.os, h.tape, h.output, h.size, h.block⟩
/-- Two stretches, each of which leaves alone what was there when it began. -/
theorem below_step {w W w2 : World} (h : Below w.heap.size w W) (k : Below W.heap.size W w2) : Below w.heap.size w w2 :=
  h.trans ⟨k.os, k.tape, k.output, k.size, fun i hi => k.block i (Nat.lt_of_lt_of_le hi h.size)⟩
theorem below_of_grown {w W : World} (h : Below w.heap.size w W) {w2 : World} {row : Option Nat} (hg : W.grownBy w2 row) (hr : ∀ k, row = some k → w.heap.size ≤ k) : Below w.heap.size w w2 := h.grown hg h.size hr
theorem below_set {w W : World} (h : Below w.heap.size w W) {p : Addr} (hp : w.heap.size ≤ p.block) (u : Value) : Below w.heap.size w (W.setCell p u) := h.setCell hp u
theorem cell_below {w w1 : World} (h : Below w.heap.size w w1) {a : Addr} {v : Value} (hc : w.cell? a = some v) : w1.cell? a = some v := (h.cell (World.block_lt_of_cell? w a hc)).trans hc

/-- What stood reads as before, as rules for the walk. -/
theorem bcell {W w1 : World} (hb : Below W.heap.size W w1) : (∀ b o, b < W.heap.size → w1.cell? ⟨b, o, none⟩ = W.cell? ⟨b, o, none⟩) ∧ (∀ b o, b < W.heap.size → w1.frozen? ⟨b, o, none⟩ = W.frozen? ⟨b, o, none⟩) :=
  ⟨fun b o h => hb.cell (p := ⟨b, o, none⟩) h, fun b o h => hb.frozen (p := ⟨b, o, none⟩) h⟩
/-- Nothing but draws. -/
def Drawn (w w' : World) : Prop := ∃ n, w' = w.drewN n
theorem Drawn.refl (w : World) : Drawn w w := ⟨0, rfl⟩
theorem Drawn.step {w w' : World} (h : Drawn w w') (n : Nat) : Drawn w (w'.drewN n) := by
  obtain ⟨m, rfl⟩ := h
  exact ⟨m + n, World.drewN_drewN ..⟩
theorem Drawn.below {w w' : World} (h : Drawn w w') : Below w.heap.size w w' := by
  obtain ⟨n, rfl⟩ := h
  exact below_drewN (Below.refl _ _) n

/-! ### what a value's cells say -/
/-- sz cells; K w ok x cs: the cells cs say x in the world w, and what they lead to lies in blocks that are ok. -/
structure Rp (α : Type) where
  sz : Nat
  K : World → (Nat → Prop) → α → List Value → Prop
  len : ∀ {w ok x cs}, K w ok x cs → cs.length = sz
  one : ∀ {w ok x cs}, K w ok x cs → ∀ u ∈ cs, u.oneCell' = true
  mono : ∀ {w : World} {ok ok' x cs}, (∀ k, ok k → k < w.heap.size → ok' k) → K w ok x cs → K w ok' x cs
  move : ∀ {w w1 : World} {ok x cs}, (∀ k, ok k → k < w.heap.size → w1.heap[k]? = w.heap[k]?) → K w ok x cs → K w1 ok x cs

namespace Rp
variable {α β : Type} {d : Rp α} {w w1 : World} {ok ok' : Nat → Prop} {xs : List α} {A : Option Addr} {v : Value}

/-- A row of elements that is read. -/
def Row (d : Rp α) (w : World) (ok : Nat → Prop) (A : Option Addr) (xs : List α) : Prop :=
  xs.length ≤ 9223372036854775807 ∧ ∀ j p, xs[j]? = some p → ∃ ad, A = some ad ∧ ok ad.block ∧ ad.block < w.heap.size ∧ ∃ c, d.K w ok p c ∧ ∀ i u, c[i]? = some u → w.cell? (ad.add (j * d.sz + i)) = some u
/-- A slice's value that reads as xs. -/
def Sl (d : Rp α) (w : World) (ok : Nat → Prop) (v : Value) (xs : List α) : Prop := ∃ A c, v = .slice A xs.length c ∧ xs.length ≤ c ∧ d.Row w ok A xs

theorem Row.mono (h : d.Row w ok A xs) (hk : ∀ k, ok k → k < w.heap.size → ok' k) : d.Row w ok' A xs :=
  ⟨h.1, fun j p hp => by
    obtain ⟨ad, e, h1, h2, c, hc, h3⟩ := h.2 j p hp
    exact ⟨ad, e, hk _ h1 h2, h2, c, d.mono hk hc, h3⟩⟩
theorem Row.move (h : d.Row w ok A xs) (hk : ∀ k, ok k → k < w.heap.size → w1.heap[k]? = w.heap[k]?) : d.Row w1 ok A xs :=
  ⟨h.1, fun j p hp => by
    obtain ⟨ad, e, h1, h2, c, hc, h3⟩ := h.2 j p hp
    have hb := hk _ h1 h2
    refine ⟨ad, e, h1, ?_, c, d.move hk hc, fun i u hu => ?_⟩
    · rw [Array.getElem?_eq_getElem h2] at hb
      exact (Array.getElem?_eq_some_iff.1 hb).1
    · exact (World.cell?_of_block (w := w) (by rw [add_block]; exact hb)).trans (h3 i u hu)⟩
theorem Row.below (h : d.Row w ok A xs) (hb : Below w.heap.size w w1) : d.Row w1 ok A xs := h.move fun k _ hk => hb.block k hk
theorem Row.nil : d.Row w ok A [] := ⟨by simp, fun j p h => by simp at h⟩
theorem Row.at_ (h : d.Row w ok A xs) {k : Nat} (hk : k < xs.length) : ∃ ad c, A = some ad ∧ ad.block < w.heap.size ∧ ok ad.block ∧ d.K w ok xs[k] c ∧ ∀ i u, c[i]? = some u → w.cell? (ad.add (k * d.sz + i)) = some u := by
  obtain ⟨ad, e, h1, h2, c, hc, h3⟩ := h.2 k _ (List.getElem?_eq_getElem hk)
  exact ⟨ad, c, e, h2, h1, hc, h3⟩
theorem Row.take (h : d.Row w ok A xs) (n : Nat) : d.Row w ok A (xs.take n) :=
  ⟨Nat.le_trans (by simp; omega) h.1, fun j p hp => by
    rw [List.getElem?_take] at hp
    split at hp
    · exact h.2 j p hp
    · cases hp⟩
theorem Row.drop (h : d.Row w ok A xs) {n c : Nat} (hn : n ≤ xs.length) (hc : xs.length ≤ c) : d.Row w ok (if c = n then A else A.map (·.add (n * d.sz))) (xs.drop n) :=
  ⟨Nat.le_trans (by simp) h.1, fun j p hp => by
    rw [List.getElem?_drop] at hp
    obtain ⟨ad, rfl, h1, h2, c', hc', h3⟩ := h.2 _ p hp
    have hl := (List.getElem?_eq_some_iff.1 hp).1
    rw [if_neg (by omega)]
    refine ⟨ad.add (n * d.sz), rfl, by rw [add_block]; exact h1, by rw [add_block]; exact h2, c', hc', fun i u hu => ?_⟩
    rw [add_add, ← Nat.add_assoc, ← Nat.add_mul]
    exact h3 i u hu⟩
/-- 's[n:]' as the walk spells it, its two ways. -/
theorem Row.cut (h : d.Row w ok A xs) {n : Nat} (_hn : n ≤ xs.length) : d.Row w ok (A.map (·.add (n * d.sz))) (xs.drop n) :=
  ⟨Nat.le_trans (by simp) h.1, fun j p hp => by
    rw [List.getElem?_drop] at hp
    obtain ⟨ad, rfl, h1, h2, c', hc', h3⟩ := h.2 _ p hp
    refine ⟨ad.add (n * d.sz), rfl, by rw [add_block]; exact h1, by rw [add_block]; exact h2, c', hc', fun i u hu => ?_⟩
    rw [add_add, ← Nat.add_assoc, ← Nat.add_mul]
    exact h3 i u hu⟩
theorem Row.end_ {B : Option Addr} (_h : d.Row w ok A xs) {n c : Nat} (hc : xs.length ≤ c) (e : c = n) : d.Row w ok B (xs.drop n) := by
  rw [List.drop_eq_nil_of_le (by omega)]
  exact Row.nil
theorem Sl.mono (h : d.Sl w ok v xs) (hk : ∀ k, ok k → k < w.heap.size → ok' k) : d.Sl w ok' v xs := by
  obtain ⟨A, c, rfl, hc, hr⟩ := h
  exact ⟨A, c, rfl, hc, hr.mono hk⟩
theorem Sl.move (h : d.Sl w ok v xs) (hk : ∀ k, ok k → k < w.heap.size → w1.heap[k]? = w.heap[k]?) : d.Sl w1 ok v xs := by
  obtain ⟨A, c, rfl, hc, hr⟩ := h
  exact ⟨A, c, rfl, hc, hr.move hk⟩
theorem Sl.below (h : d.Sl w ok v xs) (hb : Below w.heap.size w w1) : d.Sl w1 ok v xs := h.move fun k _ hk => hb.block k hk
theorem Sl.nil (d : Rp α) (w : World) (ok : Nat → Prop) : d.Sl w ok (.slice none 0 0) [] := ⟨none, 0, rfl, Nat.le_refl _, Row.nil⟩
theorem Sl.one (h : d.Sl w ok v xs) : v.oneCell' = true := by obtain ⟨A, c, rfl, _⟩ := h; rfl

/-! ### kinds -/
def scalar (enc : α → Value) (h1 : ∀ x, (enc x).oneCell' = true) : Rp α where
  sz := 1
  K := fun _ _ x cs => cs = [enc x]
  len := fun h => by rw [h]; rfl
  one := fun h u hu => by rw [h] at hu; rw [List.mem_singleton.1 hu]; exact h1 _
  mono := fun _ h => h
  move := fun _ h => h
def int : Rp Int := scalar (Value.int .i64) (fun _ => rfl)
def bool : Rp Bool := scalar Value.bool (fun _ => rfl)
def str : Rp ByteArray := scalar Value.string (fun _ => rfl)
def slice (d : Rp α) : Rp (List α) where
  sz := 1
  K := fun w ok xs cs => ∃ v, cs = [v] ∧ d.Sl w ok v xs
  len := by rintro _ _ _ _ ⟨v, rfl, _⟩; rfl
  one := by rintro _ _ _ _ ⟨v, rfl, h⟩ u hu; rw [List.mem_singleton.1 hu]; exact h.one
  mono := by rintro _ _ _ _ _ hk ⟨v, rfl, h⟩; exact ⟨v, rfl, h.mono hk⟩
  move := by rintro _ _ _ _ _ hk ⟨v, rfl, h⟩; exact ⟨v, rfl, h.move hk⟩
def pair (a : Rp α) (b : Rp β) : Rp (α × β) where
  sz := a.sz + b.sz
  K := fun w ok x cs => ∃ c0 c1, cs = c0 ++ c1 ∧ a.K w ok x.1 c0 ∧ b.K w ok x.2 c1
  len := by rintro _ _ _ _ ⟨c0, c1, rfl, h0, h1⟩; rw [List.length_append, a.len h0, b.len h1]
  one := by
    rintro _ _ _ _ ⟨c0, c1, rfl, h0, h1⟩ u hu
    rcases List.mem_append.1 hu with hu | hu
    · exact a.one h0 u hu
    · exact b.one h1 u hu
  mono := by rintro _ _ _ _ _ hk ⟨c0, c1, rfl, h0, h1⟩; exact ⟨c0, c1, rfl, a.mono hk h0, b.mono hk h1⟩
  move := by rintro _ _ _ _ _ hk ⟨c0, c1, rfl, h0, h1⟩; exact ⟨c0, c1, rfl, a.move hk h0, b.move hk h1⟩
/-- A Lean structure by its fields. -/
def iso (d : Rp α) (f : β → α) : Rp β where
  sz := d.sz
  K := fun w ok x cs => d.K w ok (f x) cs
  len := d.len
  one := d.one
  mono := d.mono
  move := d.move

theorem int_K {x : Int} {cs : List Value} : int.K w ok x cs ↔ cs = [.int .i64 x] := Iff.rfl
theorem bool_K {x : Bool} {cs : List Value} : bool.K w ok x cs ↔ cs = [.bool x] := Iff.rfl
theorem str_K {x : ByteArray} {cs : List Value} : str.K w ok x cs ↔ cs = [.string x] := Iff.rfl
/-- An element of one cell, as the walk spells its cell. -/
theorem Row.at1 (h : d.Row w ok A xs) (h1 : d.sz = 1) {k : Nat} (hk : k < xs.length) : ∃ ad u, A = some ad ∧ ad.block < w.heap.size ∧ ok ad.block ∧ d.K w ok xs[k] [u] ∧ w.cell? (ad.add k) = some u := by
  obtain ⟨ad, c, e, h2, h3, hK, hc⟩ := h.at_ hk
  have hl := d.len hK
  rw [h1] at hl hc
  match c, hl with
  | [u], _ => exact ⟨ad, u, e, h2, h3, hK, by simpa using hc 0 u rfl⟩
theorem int_at {xs : List Int} (h : int.Row w ok A xs) {k : Nat} (hk : k < xs.length) : ∃ ad, A = some ad ∧ ad.block < w.heap.size ∧ w.cell? (ad.add k) = some (.int .i64 xs[k]) := by
  obtain ⟨ad, u, e, h2, _, hK, hc⟩ := h.at1 rfl hk
  obtain rfl : u = _ := by simpa [int, scalar] using hK
  exact ⟨ad, e, h2, hc⟩
theorem str_at {xs : List ByteArray} (h : str.Row w ok A xs) {k : Nat} (hk : k < xs.length) : ∃ ad, A = some ad ∧ ad.block < w.heap.size ∧ w.cell? (ad.add k) = some (.string xs[k]) := by
  obtain ⟨ad, u, e, h2, _, hK, hc⟩ := h.at1 rfl hk
  obtain rfl : u = _ := by simpa [str, scalar] using hK
  exact ⟨ad, e, h2, hc⟩

/-! ### a row of the call's own -/
def Reps (R : α → List Value → Prop) (size : Nat) (ps : List α) (cs : List Value) : Prop :=
  cs.length = ps.length * size ∧ ∀ j p, ps[j]? = some p → R p ((cs.drop (j * size)).take size)
/-- The row v (elements of type e) is the call's own from block base on; what its elements lead to is ok, and is not the row itself. -/
def Own (d : Rp α) (e : TypeId) (w : World) (base : Nat) (ok : Nat → Prop) (v : Value) (xs : List α) : Prop :=
  ∃ inner, w.ownsRow base e d.sz v xs.length inner ∧ Reps (d.K w (fun k => ok k ∧ some k ≠ v.ownBlock)) d.sz xs inner

variable {e base : Nat}
theorem Own.nil (d : Rp α) (e : TypeId) (w : World) (base : Nat) (ok : Nat → Prop) : d.Own e w base ok (.slice none 0 0) [] := ⟨[], World.ownsRow_nil _ _ _ _, by simp, fun j p h => by simp at h⟩
theorem own_move {size n : Nat} {cs : List Value} (h : w.ownsRow base e size v n cs) (hm : ∀ k, v.ownBlock = some k → w1.heap[k]? = w.heap[k]?) : w1.ownsRow base e size v n cs := by
  obtain ⟨h1, h2⟩ := h
  refine ⟨h1, ?_⟩
  rcases h2 with h2 | ⟨g, cap, cur, rfl, hg, hh, r⟩
  · exact .inl h2
  · exact .inr ⟨g, cap, cur, rfl, hg, (hm g (by simp [Value.ownBlock])).trans hh, r⟩
theorem Own.move (h : d.Own e w base ok v xs) (hv : ∀ k, v.ownBlock = some k → w1.heap[k]? = w.heap[k]?) (hk : ∀ k, ok k → some k ≠ v.ownBlock → k < w.heap.size → w1.heap[k]? = w.heap[k]?) : d.Own e w1 base ok v xs := by
  obtain ⟨inner, ho, hl, hr⟩ := h
  exact ⟨inner, own_move ho hv, hl, fun j p hp => d.move (fun k h1 h2 => hk k h1.1 h1.2 h2) (hr j p hp)⟩
theorem Own.mono (h : d.Own e w base ok v xs) (hk : ∀ k, ok k → k < w.heap.size → ok' k) : d.Own e w base ok' v xs := by
  obtain ⟨inner, ho, hl, hr⟩ := h
  exact ⟨inner, ho, hl, fun j p hp => d.mono (fun k h1 h2 => ⟨hk k h1.1 h2, h1.2⟩) (hr j p hp)⟩
theorem Own.lt (h : d.Own e w base ok v xs) : ∀ k, v.ownBlock = some k → base ≤ k ∧ k < w.heap.size := h.choose_spec.1.lt
theorem Own.below (h : d.Own e w base ok v xs) (hb : Below w.heap.size w w1) : d.Own e w1 base ok v xs :=
  h.move (fun k hk => hb.block k (h.lt k hk).2) fun k _ _ hk => hb.block k hk
/-- Another row has been written: not this one, and none that its elements lead to. -/
theorem Own.grown (h : d.Own e w base ok v xs) {row : Option Nat} (hg : w.grownBy w1 row) (hne : ∀ k, v.ownBlock = some k → some k ≠ row) (hok : ∀ k, ok k → some k ≠ row) : d.Own e w1 base ok v xs :=
  h.move (fun k hk => hg.block k (h.lt k hk).2 (hne k hk)) fun k h1 _ h3 => hg.block k h3 (hok k h1)
theorem Own.sl (h : d.Own e w base ok v xs) : d.Sl w (fun k => ok k ∨ v.ownBlock = some k) v xs := by
  obtain ⟨inner, ho, hl, hr⟩ := h
  rcases Nat.eq_zero_or_pos xs.length with h0 | h0
  · obtain rfl : xs = [] := List.eq_nil_of_length_eq_zero h0
    rcases ho.2 with ⟨rfl, _⟩ | ⟨g, cap, cur, rfl, _⟩
    · exact Sl.nil _ _ _
    · exact ⟨_, cap, rfl, Nat.zero_le _, Row.nil⟩
  · have hm : xs.length ≤ 9223372036854775807 := by
      rcases ho.2 with ⟨_, h1⟩ | ⟨g', cap', cur, he, _, _, h1, h2, _⟩
      · omega
      · simp only [maxLen] at h2
        omega
    rcases ho.2 with ⟨_, h1⟩ | ⟨g, cap, cur, rfl, _, hh, hn, _⟩
    · omega
    · have hlt : g < w.heap.size := (Array.getElem?_eq_some_iff.1 hh).1
      refine ⟨_, cap, rfl, hn, hm, fun j p hp => ⟨_, rfl, .inr (by simp [Value.ownBlock]), hlt, _, d.mono (fun k h1 _ => .inl h1.1) (hr j p hp), fun i u hu => ?_⟩⟩
      refine ho.cells (g := g) rfl _ u ?_
      rw [List.getElem?_take] at hu
      split at hu
      · rw [List.getElem?_drop] at hu
        exact hu
      · cases hu
theorem Reps.snoc {R : α → List Value → Prop} {size : Nat} {ps : List α} {cs c : List Value} {p : α} (h : Reps R size ps cs) (hp : R p c) (hc : c.length = size) : Reps R size (ps ++ [p]) (cs ++ c) := by
  refine ⟨by rw [List.length_append, h.1, hc, List.length_append, List.length_singleton, Nat.add_mul, Nat.one_mul], fun j q hq => ?_⟩
  rcases Nat.lt_or_ge j ps.length with hj | hj
  · rw [List.getElem?_append_left hj] at hq
    have h1 : j * size + size ≤ cs.length := by rw [h.1, ← Nat.succ_mul]; exact Nat.mul_le_mul_right _ hj
    have h2 := h.2 j q hq
    rw [List.drop_append_of_le_length (by omega), List.take_append_of_le_length (by rw [List.length_drop]; omega)]
    exact h2
  · have hj' : j = ps.length := by
      have := (List.getElem?_eq_some_iff.1 hq).1
      rw [List.length_append, List.length_singleton] at this
      omega
    subst hj'
    have hq' : p = q := by simpa using hq
    subst hq'
    rw [← h.1, List.drop_left, ← hc, List.take_length]
    exact hp
theorem Reps.append {R : α → List Value → Prop} {size : Nat} {ps qs : List α} {cs ds : List Value} (h : Reps R size ps cs) (h' : Reps R size qs ds) : Reps R size (ps ++ qs) (cs ++ ds) := by
  refine ⟨by rw [List.length_append, h.1, h'.1, List.length_append, Nat.add_mul], fun j q hq => ?_⟩
  rcases Nat.lt_or_ge j ps.length with hj | hj
  · rw [List.getElem?_append_left hj] at hq
    have h1 : j * size + size ≤ cs.length := by rw [h.1, ← Nat.succ_mul]; exact Nat.mul_le_mul_right _ hj
    have h2 := h.2 j q hq
    rw [List.drop_append_of_le_length (by omega), List.take_append_of_le_length (by rw [List.length_drop]; omega)]
    exact h2
  · rw [List.getElem?_append_right hj] at hq
    have h2 := h'.2 _ q hq
    have e1 : j * size = cs.length + (j - ps.length) * size := by rw [h.1, ← Nat.add_mul]; congr 1; omega
    rw [e1, List.drop_append, List.drop_eq_nil_of_le (by omega), List.nil_append, Nat.add_sub_cancel_left]
    exact h2
/-- The cells of a row that is read, all of them. -/
theorem Row.all {ad : Addr} (h : d.Row w ok (some ad) xs) : ∃ news, Reps (d.K w ok) d.sz xs news ∧ (∀ j u, news[j]? = some u → w.cell? (ad.add j) = some u) ∧ ∀ u ∈ news, u.oneCell' = true := by
  have key : ∀ n, n ≤ xs.length → ∃ news, Reps (d.K w ok) d.sz (xs.take n) news ∧ (∀ j u, news[j]? = some u → w.cell? (ad.add j) = some u) ∧ ∀ u ∈ news, u.oneCell' = true := by
    intro n
    induction n with
    | zero => intro _; exact ⟨[], ⟨by simp, fun j p h => by simp at h⟩, fun j u h => by simp at h, fun u h => by simp at h⟩
    | succ n ih =>
      intro hn
      obtain ⟨news, h1, h2, h3⟩ := ih (by omega)
      obtain ⟨ad', c, e, _, _, hK, hc⟩ := h.at_ (k := n) (by omega)
      cases e
      have hnl : news.length = n * d.sz := by rw [h1.1, List.length_take, Nat.min_eq_left (by omega)]
      refine ⟨news ++ c, ?_, fun j u hu => ?_, fun u hu => ?_⟩
      · rw [List.take_succ_eq_append_getElem (by omega)]
        exact h1.snoc hK (d.len hK)
      · rcases Nat.lt_or_ge j news.length with hj | hj
        · rw [List.getElem?_append_left hj] at hu
          exact h2 j u hu
        · rw [List.getElem?_append_right hj] at hu
          have := hc _ u hu
          rwa [← hnl, Nat.add_sub_cancel' hj] at this
      · rcases List.mem_append.1 hu with hu | hu
        · exact h3 u hu
        · exact d.one hK u hu
  obtain ⟨news, h1, h2, h3⟩ := key xs.length (Nat.le_refl _)
  rw [List.take_length] at h1
  exact ⟨news, h1, h2, h3⟩

/-! ### append, at the operation -/
section
variable {P : Program} {ops : Array Oper} {rest : List Oper} {o : Oper} {a : Act} {Q : Exit → Act → World → Prop}
/-- What an append leaves of the elements: a new row, or the old one. -/
theorem Own.appended {W : World} {v1 : Value} {ys : List α} {inner news : List Value} (hr : Reps (d.K W (fun k => ok k ∧ some k ≠ v.ownBlock)) d.sz xs inner) (hn : Reps (d.K W (fun k => ok k ∧ some k ≠ v.ownBlock)) d.sz ys news)
    (ho : w1.ownsRow base e d.sz v1 (xs.length + ys.length) (inner ++ news)) (hg : W.grownBy w1 v.ownBlock) (hat : v1.ownBlock = v.ownBlock ∨ ∃ b, v1.ownBlock = some b ∧ W.heap.size ≤ b) : d.Own e w1 base ok v1 (xs ++ ys) := by
  refine ⟨inner ++ news, by rw [List.length_append]; exact ho, ?_⟩
  have h := hr.append hn
  refine ⟨h.1, fun j p hp => ?_⟩
  have h1 : d.K W (fun k => (ok k ∧ some k ≠ v1.ownBlock) ∧ some k ≠ v.ownBlock) p _ := d.mono (fun k h1 h2 => ⟨⟨h1.1, ?_⟩, h1.2⟩) (h.2 j p hp)
  · exact d.mono (fun k h1 _ => h1.1) (d.move (fun k h1 h3 => hg.block k h3 h1.2) h1)
  · rcases hat with hat | ⟨b, hat, hb⟩
    · rw [hat]; exact h1.2
    · rw [hat]
      intro he
      injection he with he
      omega
/-- append(v, x); behind 'at_builtin'; the goal's world is 'W.alloc' of the variadic's box. -/
theorem append_one {w0 W : World} (d : Rp α) (base : Nat) (hgd : o.guard = none) (s x : Operand) (t e : TypeId) (z : Value) (bytes : Nat)
    (ho : o.op = .call { callee := .builtin .append, args := #[s, x], argTypes := #[t, t] })
    (ht : P.underlying t = some (.slice e)) (hinfo : (P.info? e).map (fun i => (i.zero, i.size, i.bytes)) = some (some z, d.sz, bytes)) (hz : z.cells.size = d.sz) (hs0 : 0 < d.sz) (hb0 : 0 < bytes)
    (v : Value) (xs : List α) (p : α) (ys : List Value) (ok : Nat → Prop) (hs : a.eval s = v) (hx : a.eval x = .slice (some ⟨W.heap.size, 0, none⟩) 1 1)
    (hp : d.K W (fun k => ok k ∧ some k ≠ v.ownBlock) p ys)
    (HO : d.Own e W base ok v xs) (HB : Below base w0 W) (hbase : base ≤ W.heap.size) (hl : (xs.length + 1) * bytes ≤ 140737488355328)
    (h : ∀ v1 w1, d.Own e w1 base ok v1 (xs ++ [p]) → Below base w0 w1 → W.grownBy w1 v.ownBlock → (v1.ownBlock = v.ownBlock ∨ ∃ b, v1.ownBlock = some b ∧ W.heap.size ≤ b) → wpList P ops Q rest (a.put o.dst v1) w1) :
    wpList P ops Q (o :: rest) a (W.alloc (.cells ys.toArray e)) := by
  obtain ⟨i0, hi, hzz⟩ := Option.map_eq_some_iff.1 hinfo
  simp only [Prod.mk.injEq] at hzz
  obtain ⟨hz0, hz1, hz2⟩ := hzz
  have hlen : xs.length + 1 ≤ 140737488355328 := Nat.le_trans (Nat.le_mul_of_pos_right _ hb0) hl
  have hlt := HO.lt
  obtain ⟨inner, hown, hr⟩ := HO
  have hys := d.len hp
  refine wpList_append_own_at (W.alloc (.cells ys.toArray e)) hgd s x t ho base e i0 z d.sz bytes ht hi hz0 hz1 hz2 hz hs0 v xs.length inner hs (hown.alloc _) ⟨W.heap.size, 0, none⟩ 1 1 ys hx (by rw [hys]; simp)
    (by simpa using World.news_of_block (cs := ys.toArray) (t := e) (fr := (0, 0)) (heap_alloc_new W (.cells ys.toArray e))) (d.one hp) (by simp only [maxLen]; omega) hl (by simp; omega) ?_
  intro v1 w1 hown1 hg _ hat
  have hg1 : W.grownBy w1 v.ownBlock := World.grownBy.trans (World.grownBy_alloc W _ _) hg
  have hat1 : v1.ownBlock = v.ownBlock ∨ ∃ b, v1.ownBlock = some b ∧ W.heap.size ≤ b := by
    rcases hat with hat | hat
    · exact .inl hat
    · exact .inr ⟨_, hat, by simp⟩
  refine h v1 w1 (Own.appended (ys := [p]) hr ⟨by simp [hys], fun j q hq => ?_⟩ hown1 hg1 hat1) ((HB.alloc hbase _).grown hg (by simp; omega) (fun k hk => (hlt k hk).1)) hg1 hat1
  match j, hq with
  | 0, hq =>
    obtain rfl : p = q := by simpa using hq
    rw [Nat.zero_mul, List.drop_zero, ← hys, List.take_length]
    exact hp
/-- append(v, ys...), ys a slice that is read. -/
theorem append_row {w0 W : World} (d : Rp α) (base : Nat) (hgd : o.guard = none) (s x : Operand) (t e : TypeId) (z : Value) (bytes : Nat)
    (ho : o.op = .call { callee := .builtin .append, args := #[s, x], argTypes := #[t, t] })
    (ht : P.underlying t = some (.slice e)) (hinfo : (P.info? e).map (fun i => (i.zero, i.size, i.bytes)) = some (some z, d.sz, bytes)) (hz : z.cells.size = d.sz) (hs0 : 0 < d.sz) (hb0 : 0 < bytes)
    (v : Value) (xs ys : List α) (A : Option Addr) (c : Nat) (ok : Nat → Prop) (hs : a.eval s = v) (hx : a.eval x = .slice A ys.length c)
    {ok1 : Nat → Prop} (hp : d.Row W ok1 A ys) (hK : ∀ p cs, d.K W ok1 p cs → d.K W (fun k => ok k ∧ some k ≠ v.ownBlock) p cs)
    (HO : d.Own e W base ok v xs) (HB : Below base w0 W) (hbase : base ≤ W.heap.size) (hl : (xs.length + ys.length) * bytes ≤ 140737488355328)
    (h : ∀ v1 w1, d.Own e w1 base ok v1 (xs ++ ys) → Below base w0 w1 → W.grownBy w1 v.ownBlock → (v1.ownBlock = v.ownBlock ∨ ∃ b, v1.ownBlock = some b ∧ W.heap.size ≤ b) → wpList P ops Q rest (a.put o.dst v1) w1) :
    wpList P ops Q (o :: rest) a W := by
  obtain ⟨i0, hi, hzz⟩ := Option.map_eq_some_iff.1 hinfo
  simp only [Prod.mk.injEq] at hzz
  obtain ⟨hz0, hz1, hz2⟩ := hzz
  have hlen : xs.length + ys.length ≤ 140737488355328 := Nat.le_trans (Nat.le_mul_of_pos_right _ hb0) hl
  have hlt := HO.lt
  cases A with
  | none =>
    have h0 : ys = [] := by
      cases ys with
      | nil => rfl
      | cons y ys =>
        obtain ⟨_, e, _⟩ := hp.2 0 y rfl
        cases e
    subst h0
    obtain ⟨inner, hown, hr⟩ := HO
    have hrun : (Builtin.append_ #[t, t] o.type #[v, .slice none 0 c]).run P W = .ok v W := by
      rcases hown.2 with ⟨rfl, h0⟩ | ⟨g, cap, cur, rfl, _, _, hnc, _⟩
      · simp [Builtin.append_, run_underlying ht, sizeOf, typeInfo, hi, Builtin.lenOf, Builtin.firstCells]
      · simp [Builtin.append_, run_underlying ht, sizeOf, typeInfo, hi, Builtin.lenOf, Builtin.firstCells, hnc, storeCells]
    refine wpList_plain hgd fun K hK => ?_
    unfold Oper.wp execOp
    simp only [ho, resolve, invoke, builtin, Sem.run_bind, Sem.run_pure, Result.andThen_ok, List.map_toArray, List.map_cons, List.map_nil, hs, hx, List.length_nil, hrun]
    exact hK _ _ (h v W (by rw [List.append_nil]; exact ⟨inner, hown, hr⟩) HB (World.grownBy.refl W _) (.inl rfl))
  | some ad =>
    obtain ⟨inner, hown, hr⟩ := HO
    obtain ⟨news, hn, hc, h1⟩ := hp.all
    refine wpList_append_own_at W hgd s x t ho base e i0 z d.sz bytes ht hi hz0 hz1 hz2 hz hs0 v xs.length inner hs hown ad ys.length c news hx hn.1 hc h1 (by simp only [maxLen]; omega) hl hbase ?_
    intro v1 w1 hown1 hg _ hat
    have hat1 : v1.ownBlock = v.ownBlock ∨ ∃ b, v1.ownBlock = some b ∧ W.heap.size ≤ b := by
      rcases hat with hat | hat
      · exact .inl hat
      · exact .inr ⟨_, hat, Nat.le_refl _⟩
    exact h v1 w1 (Own.appended hr ⟨hn.1, fun j p hp => hK _ _ (hn.2 j p hp)⟩ hown1 hg hat1) (HB.grown hg hbase (fun k hk => (hlt k hk).1)) hg hat1
end
/-- An empty literal, '[]T{}'. -/
theorem Own.empty (d : Rp α) (e : TypeId) (W : World) (base : Nat) (ok : Nat → Prop) (hb : base ≤ W.heap.size) : d.Own e (W.alloc (.cells #[] e)) base ok (.slice (some ⟨W.heap.size, 0, none⟩) 0 0) [] :=
  ⟨[], World.ownsRow_made W #[] 0 hb (by simp) (by simp), by simp, fun j p h => by simp at h⟩
/-- A literal, '[]T{..}': inner its cells. -/
theorem Own.lit (d : Rp α) (e : TypeId) (W : World) (base : Nat) (ok : Nat → Prop) (hb : base ≤ W.heap.size) {xs : List α} {inner : List Value} (hrep : Reps (d.K W ok) d.sz xs inner) (hm : xs.length ≤ 9223372036854775807) :
    d.Own e (W.alloc (.cells inner.toArray e)) base ok (.slice (some ⟨W.heap.size, 0, none⟩) xs.length xs.length) xs := by
  refine ⟨inner, by simpa using World.ownsRow_lit (base := base) (e := e) (size := d.sz) W inner.toArray xs.length hb (by simpa [maxLen] using hm) (by simpa using hrep.1), hrep.1, fun j p hp => ?_⟩
  have h1 : d.K W (fun k => (ok k ∧ some k ≠ (Value.slice (some ⟨W.heap.size, 0, none⟩) xs.length xs.length).ownBlock)) p _ := d.mono (fun k h1 h2 => ⟨h1, by simp [Value.ownBlock]; omega⟩) (hrep.2 j p hp)
  exact d.move (fun k _ h2 => Below.heap_alloc W _ k h2) h1
theorem reps_str (w : World) (ok : Nat → Prop) (xs : List ByteArray) : Reps (str.K w ok) 1 xs (xs.map Value.string) := by
  refine ⟨by simp, fun j p hp => ?_⟩
  have hj := (List.getElem?_eq_some_iff.1 hp)
  obtain ⟨hj, rfl⟩ := hj
  rw [str_K, Nat.mul_one, List.drop_eq_getElem_cons (by simpa using hj)]
  simp
theorem reps_int (w : World) (ok : Nat → Prop) (xs : List Int) : Reps (int.K w ok) 1 xs (xs.map (Value.int .i64)) := by
  refine ⟨by simp, fun j p hp => ?_⟩
  have hj := (List.getElem?_eq_some_iff.1 hp)
  obtain ⟨hj, rfl⟩ := hj
  rw [int_K, Nat.mul_one, List.drop_eq_getElem_cons (by simpa using hj)]
  simp
/-- A row of the call's own is read where it begins. -/
theorem Own.row {A : Option Addr} {n c : Nat} (h : d.Own e w base ok (.slice A n c) xs) : n = xs.length ∧ xs.length ≤ c ∧ d.Row w (fun k => ok k ∨ (Value.slice A n c).ownBlock = some k) A xs := by
  obtain ⟨A', c', e, hc, hr⟩ := h.sl
  injection e with e1 e2 e3
  subst e1 e2 e3
  exact ⟨rfl, hc, hr⟩
end Rp
end Go.Proofs.WK
namespace Go.Proofs.WK
open Go.RowKit
/-- Block n is a variable that holds cs. -/
def Bk (w : World) (n : Nat) (cs : List Value) : Prop := ∃ t, w.heap[n]? = some (.cells cs.toArray t (0, 0))
theorem Bk.lt {w : World} {n : Nat} {cs : List Value} (h : Bk w n cs) : n < w.heap.size := by
  obtain ⟨t, h⟩ := h
  exact (Array.getElem?_eq_some_iff.1 h).1
theorem Bk.below {w w' : World} {n : Nat} {cs : List Value} (h : Bk w n cs) (hb : Below w.heap.size w w') : Bk w' n cs := by
  obtain ⟨t, h1⟩ := h
  exact ⟨t, (hb.block n (Array.getElem?_eq_some_iff.1 h1).1).trans h1⟩
theorem Bk.belowN {w w' : World} {n N : Nat} {cs : List Value} (h : Bk w n cs) (hb : Below N w w') (hn : n < N) : Bk w' n cs := by
  obtain ⟨t, h1⟩ := h
  exact ⟨t, (hb.block n hn).trans h1⟩
theorem Bk.made (w : World) (cs : List Value) (t : TypeId) : Bk (w.alloc (.cells cs.toArray t)) w.heap.size cs := ⟨t, by show (w.heap.push _)[w.heap.size]? = _; simp⟩
theorem Bk.alloc {w : World} {n : Nat} {cs : List Value} (h : Bk w n cs) (o : Obj) : Bk (w.alloc o) n cs := h.below ((Below.refl _ _).alloc (Nat.le_refl _) o)
theorem Bk.drewN {w : World} {n : Nat} {cs : List Value} (h : Bk w n cs) (k : Nat) : Bk (w.drewN k) n cs := h.below (below_drewN (Below.refl _ _) k)
theorem Bk.drew {w : World} {n : Nat} {cs : List Value} (h : Bk w n cs) : Bk w.drew n cs := h
theorem Bk.other {w : World} {n m o : Nat} {cs : List Value} (h : Bk w n cs) (hm : n ≠ m) (u : Value) : Bk (w.setCell ⟨m, o, none⟩ u) n cs := by
  obtain ⟨t, h1⟩ := h
  exact ⟨t, (Below.heap_setCell _ _ _ n hm).trans h1⟩
theorem Bk.set {w : World} {n : Nat} {cs : List Value} (h : Bk w n cs) (o : Nat) (u : Value) : Bk (w.setCell ⟨n, o, none⟩ u) n (cs.set o u) := by
  obtain ⟨t, h1⟩ := h
  refine ⟨t, ?_⟩
  obtain ⟨hlt, hk⟩ := Array.getElem?_eq_some_iff.1 h1
  show (w.heap.modify n _)[n]? = _
  rw [Array.getElem?_eq_getElem (by rw [Array.size_modify]; exact hlt), Array.getElem_modify_self, hk]
  simp
theorem Bk.cell {w : World} {n : Nat} {cs : List Value} (h : Bk w n cs) (o : Nat) : w.cell? ⟨n, o, none⟩ = cs[o]? := by
  obtain ⟨t, h⟩ := h
  simp [World.cell?, h]
theorem Bk.frozen {w : World} {n : Nat} {cs : List Value} (h : Bk w n cs) (o : Nat) : w.frozen? ⟨n, o, none⟩ = false := by
  obtain ⟨t, h⟩ := h
  simp [World.frozen?, h]
theorem Bk.two {w : World} {n : Nat} {x y : Value} (h : Bk w n [x, y]) : n < w.heap.size ∧ w.cell? ⟨n, 0, none⟩ = some x ∧ w.cell? ⟨n, 1, none⟩ = some y ∧ w.frozen? ⟨n, 0, none⟩ = false ∧ w.frozen? ⟨n, 1, none⟩ = false :=
  ⟨h.lt, h.cell 0, h.cell 1, h.frozen 0, h.frozen 1⟩
theorem Bk.three {w : World} {n : Nat} {x y z : Value} (h : Bk w n [x, y, z]) : n < w.heap.size ∧ w.cell? ⟨n, 0, none⟩ = some x ∧ w.cell? ⟨n, 1, none⟩ = some y ∧ w.cell? ⟨n, 2, none⟩ = some z ∧ (∀ o, w.frozen? ⟨n, o, none⟩ = false) :=
  ⟨h.lt, h.cell 0, h.cell 1, h.cell 2, h.frozen⟩
theorem Bk.six {w : World} {n : Nat} {x y z a b c : Value} (h : Bk w n [x, y, z, a, b, c]) : n < w.heap.size ∧ w.cell? ⟨n, 0, none⟩ = some x ∧ w.cell? ⟨n, 1, none⟩ = some y ∧ w.cell? ⟨n, 2, none⟩ = some z ∧ w.cell? ⟨n, 3, none⟩ = some a ∧ w.cell? ⟨n, 4, none⟩ = some b ∧ w.cell? ⟨n, 5, none⟩ = some c ∧ (∀ o, w.frozen? ⟨n, o, none⟩ = false) :=
  ⟨h.lt, h.cell 0, h.cell 1, h.cell 2, h.cell 3, h.cell 4, h.cell 5, h.frozen⟩
end Go.Proofs.WK
namespace Go.Proofs.WK
open Go.RowKit Rp
/-- cs, from place o on written over with vs. -/
def over (cs : List Value) : Nat → List Value → List Value
  | _, [] => cs
  | o, v :: r => over (cs.set o v) (o + 1) r
theorem over_length (cs : List Value) : ∀ (vs : List Value) (o : Nat), (over cs o vs).length = cs.length := by
  intro vs
  induction vs generalizing cs with
  | nil => intro o; rfl
  | cons v r ih => intro o; rw [over, ih, List.length_set]
theorem over_get : ∀ (vs : List Value) (cs : List Value) (o j : Nat), (over cs o vs)[j]? = if o ≤ j ∧ j < o + vs.length ∧ j < cs.length then vs[j - o]? else cs[j]?
  | [], cs, o, j => by
    rw [over, if_neg (by simp; omega)]
  | v :: r, cs, o, j => by
    rw [over, over_get r (cs.set o v) (o + 1) j, List.length_set]
    by_cases h1 : j = o
    · subst h1
      rw [if_neg (by omega)]
      by_cases h2 : j < cs.length
      · rw [if_pos ⟨Nat.le_refl _, by simp, h2⟩]; simp [h2]
      · rw [List.getElem?_eq_none (by rw [List.length_set]; omega), if_neg (by omega), List.getElem?_eq_none (by omega)]
    · by_cases h2 : o + 1 ≤ j ∧ j < o + 1 + r.length ∧ j < cs.length
      · rw [if_pos h2, if_pos ⟨by omega, by simp; omega, h2.2.2⟩, show j - o = (j - (o + 1)) + 1 by omega, List.getElem?_cons_succ]
      · rw [if_neg h2, if_neg (by simp; omega), List.getElem?_set, if_neg (by omega)]
/-- Block g, with its type. -/
def Bt (w : World) (g : Nat) (t : TypeId) (cs : List Value) : Prop := w.heap[g]? = some (.cells cs.toArray t (0, 0))
theorem Bt.lt {w : World} {g : Nat} {t : TypeId} {cs : List Value} (h : Bt w g t cs) : g < w.heap.size := (Array.getElem?_eq_some_iff.1 h).1
theorem Bt.set {w : World} {g : Nat} {t : TypeId} {cs : List Value} (h : Bt w g t cs) (o : Nat) (u : Value) : Bt (w.setCell ⟨g, o, none⟩ u) g t (cs.set o u) := by
  unfold Bt at h ⊢
  obtain ⟨hlt, hk⟩ := Array.getElem?_eq_some_iff.1 h
  show (w.heap.modify g _)[g]? = _
  rw [Array.getElem?_eq_getElem (by rw [Array.size_modify]; exact hlt), Array.getElem_modify_self, hk]
  simp
theorem Bt.sets {g : Nat} {t : TypeId} : ∀ (vs : List Value) {w : World} {cs : List Value} (o : Nat), Bt w g t cs → Bt (w.setCells g o vs) g t (over cs o vs)
  | [], _, _, _, h => h
  | v :: r, _, _, o, h => Bt.sets r (o + 1) (h.set o v)
theorem Bt.cell {w : World} {g : Nat} {t : TypeId} {cs : List Value} (h : Bt w g t cs) (o : Nat) : w.cell? ⟨g, o, none⟩ = cs[o]? := by
  unfold Bt at h
  simp [World.cell?, h]
theorem Bt.frozen {w : World} {g : Nat} {t : TypeId} {cs : List Value} (h : Bt w g t cs) (o : Nat) : w.frozen? ⟨g, o, none⟩ = false := by
  unfold Bt at h
  simp [World.frozen?, h]
theorem grown_setCells (w : World) (g o : Nat) (vs : List Value) : w.grownBy (w.setCells g o vs) (some g) := by
  have hsz : ∀ (vs : List Value) (o : Nat) (w : World), w.grownBy (w.setCells g o vs) (some g) := by
    intro vs
    induction vs with
    | nil => intro o w; exact World.grownBy.refl w _
    | cons v r ih =>
      intro o w
      have h1 : w.grownBy (w.setCell ⟨g, o, none⟩ v) (some g) :=
        ⟨rfl, rfl, rfl, by show w.heap.size ≤ (w.heap.modify _ _).size; rw [Array.size_modify]; exact Nat.le_refl _, fun k _ hne => Below.heap_setCell w _ _ k (fun e => hne (by rw [e]))⟩
      exact h1.trans (ih (o + 1) _)
  exact hsz vs o w
namespace Rp
variable {α : Type} {d : Rp α} {w : World} {base : Nat} {ok : Nat → Prop} {e : TypeId} {xs : List α}
theorem own_open {ad : Addr} {n c : Nat} (h : d.Own e w base ok (.slice (some ad) n c) xs) : ∃ g cs, ad = ⟨g, 0, none⟩ ∧ n = xs.length ∧ base ≤ g ∧ Bt w g e cs ∧ n ≤ c ∧ c ≤ maxLen ∧ cs.length = c * d.sz ∧ Reps (d.K w (fun k => ok k ∧ some k ≠ some g)) d.sz xs (cs.take (n * d.sz)) := by
  obtain ⟨inner, ho, hr⟩ := h
  rcases ho.2 with ⟨e1, _⟩ | ⟨g, cap, cur, hv, hb, hh, h1, h2, h3, h4⟩
  · cases e1
  · injection hv with hv1 hv2 hv3
    injection hv1 with hv1
    subst hv1 hv2 hv3
    refine ⟨g, cur.toList, rfl, rfl, hb, by unfold Bt; simpa using hh, h1, h2, by simpa using h3, ?_⟩
    rw [h4]
    exact hr
theorem own_shut {g n c : Nat} {cs : List Value} (hb : base ≤ g) (hB : Bt w g e cs) (hn : n = xs.length) (h1 : n ≤ c) (h2 : c ≤ maxLen) (h3 : cs.length = c * d.sz) (hr : Reps (d.K w (fun k => ok k ∧ some k ≠ some g)) d.sz xs (cs.take (n * d.sz))) :
    d.Own e w base ok (.slice (some ⟨g, 0, none⟩) n c) xs := by
  subst hn
  exact ⟨_, ⟨hr.1, .inr ⟨g, c, cs.toArray, rfl, hb, hB, h1, h2, by simpa using h3, by simp⟩⟩, hr⟩
theorem Reps.set {R : α → List Value → Prop} {size : Nat} {ps : List α} {cs c : List Value} {x : α} (h : Reps R size ps cs) (hx : R x c) (hc : c.length = size) (i : Nat) (hi : i < ps.length) : Reps R size (ps.set i x) (over cs (i * size) c) := by
  refine ⟨by rw [over_length, h.1, List.length_set], fun j p hp => ?_⟩
  rw [List.getElem?_set] at hp
  by_cases hij : i = j
  · subst hij
    rw [if_pos rfl, if_pos hi] at hp
    obtain rfl : x = p := by simpa using hp
    have e2 : ((over cs (i * size) c).drop (i * size)).take size = c := by
      refine List.ext_getElem? fun k => ?_
      have hlen : i * size + size ≤ cs.length := by rw [h.1, ← Nat.succ_mul]; exact Nat.mul_le_mul_right _ hi
      rw [List.getElem?_take]
      by_cases hk : k < size
      · rw [if_pos hk, List.getElem?_drop, over_get, if_pos ⟨by omega, by omega, by omega⟩, Nat.add_sub_cancel_left]
      · rw [if_neg hk, List.getElem?_eq_none (by omega)]
    rw [e2]
    exact hx
  · rw [if_neg hij] at hp
    have hj := (List.getElem?_eq_some_iff.1 hp).1
    have e2 : ((over cs (i * size) c).drop (j * size)).take size = (cs.drop (j * size)).take size := by
      refine List.ext_getElem? fun k => ?_
      rw [List.getElem?_take, List.getElem?_take]
      by_cases hk : k < size
      · rw [if_pos hk, if_pos hk, List.getElem?_drop, List.getElem?_drop, over_get, if_neg]
        rintro ⟨h1, h2, _⟩
        rw [hc] at h2
        rcases Nat.lt_or_gt_of_ne hij with hlt | hlt
        · have := Nat.mul_le_mul_right size hlt
          rw [Nat.succ_mul] at this
          omega
        · have := Nat.mul_le_mul_right size hlt
          rw [Nat.succ_mul] at this
          omega
      · rw [if_neg hk, if_neg hk]
    rw [e2]
    exact h.2 j p hp
theorem over_take (cs vs : List Value) (o m : Nat) (h : o + vs.length ≤ m) : (over cs o vs).take m = over (cs.take m) o vs := by
  refine List.ext_getElem? fun k => ?_
  rw [List.getElem?_take, over_get, over_get, List.length_take, List.getElem?_take]
  by_cases hk : k < m
  · rw [if_pos hk, if_pos hk]
    by_cases h1 : o ≤ k ∧ k < o + vs.length ∧ k < cs.length
    · rw [if_pos h1, if_pos ⟨h1.1, h1.2.1, by omega⟩]
    · rw [if_neg h1, if_neg (by omega)]
  · rw [if_neg hk, if_neg (by omega), if_neg hk]
theorem over_take_same (cs vs : List Value) (o m : Nat) (h : m ≤ o) : (over cs o vs).take m = cs.take m := by
  refine List.ext_getElem? fun k => ?_
  rw [List.getElem?_take, over_get, List.getElem?_take]
  by_cases hk : k < m
  · rw [if_pos hk, if_pos hk, if_neg (by omega)]
  · rw [if_neg hk, if_neg hk]
/-- An element, as its cells say it. -/
theorem own_cells {ad : Addr} {n c k : Nat} (h : d.Own e w base ok (.slice (some ad) n c) xs) (hk : k < xs.length) : ∃ g cl, ad = ⟨g, 0, none⟩ ∧ d.K w (fun k => ok k ∧ some k ≠ some g) xs[k] cl ∧ ∀ i u, cl[i]? = some u → w.cell? (ad.add (k * d.sz + i)) = some u := by
  obtain ⟨g, cs, rfl, hn, hb, hB, h1, h2, h3, hr⟩ := own_open h
  refine ⟨g, _, rfl, hr.2 k _ (List.getElem?_eq_getElem hk), fun i u hu => ?_⟩
  rw [add_plain, hB.cell]
  rw [List.getElem?_take] at hu
  split at hu
  · rw [List.getElem?_drop, List.getElem?_take] at hu
    split at hu
    · exact hu
    · cases hu
  · cases hu
/-- 'v[i] = x'. -/
theorem own_set {g n c : Nat} (h : d.Own e w base ok (.slice (some ⟨g, 0, none⟩) n c) xs) {i : Nat} (hi : i < xs.length) {x : α} {cs : List Value} (hx : d.K w (fun k => ok k ∧ some k ≠ some g) x cs) :
    d.Own e (w.setCells g (i * d.sz) cs) base ok (.slice (some ⟨g, 0, none⟩) n c) (xs.set i x) := by
  obtain ⟨g', cur, e1, hn, hb, hB, h1, h2, h3, hr⟩ := own_open h
  injection e1 with e1
  subst e1
  have hg := grown_setCells w g (i * d.sz) cs
  have hmv : ∀ p c', d.K w (fun k => ok k ∧ some k ≠ some g) p c' → d.K (w.setCells g (i * d.sz) cs) (fun k => ok k ∧ some k ≠ some g) p c' := fun p c' hp => d.move (fun k hk hlt => hg.block k hlt hk.2) hp
  refine own_shut hb (hB.sets cs _) (by rw [List.length_set]; exact hn) h1 h2 (by rw [over_length]; exact h3) ?_
  have hle : i * d.sz + cs.length ≤ n * d.sz := by rw [d.len hx, ← Nat.succ_mul, hn]; exact Nat.mul_le_mul_right _ hi
  rw [over_take _ _ _ _ hle]
  have h4 := Reps.set hr hx (d.len hx) i hi
  exact ⟨h4.1, fun j p hp => hmv _ _ (h4.2 j p hp)⟩
/-- The row, cut: 'v[:i]'. -/
theorem own_take {g n c : Nat} (h : d.Own e w base ok (.slice (some ⟨g, 0, none⟩) n c) xs) {i : Nat} (hi : i ≤ xs.length) : d.Own e w base ok (.slice (some ⟨g, 0, none⟩) i c) (xs.take i) := by
  obtain ⟨g', cur, e1, hn, hb, hB, h1, h2, h3, hr⟩ := own_open h
  injection e1 with e1
  subst e1
  refine own_shut hb hB (by rw [List.length_take]; omega) (by omega) h2 h3 ⟨by rw [List.length_take, List.length_take, h3, Nat.min_eq_left (Nat.mul_le_mul_right _ (by omega)), Nat.min_eq_left hi], fun j p hp => ?_⟩
  have hj := (List.getElem?_eq_some_iff.1 hp).1
  rw [List.length_take] at hj
  rw [List.getElem?_take, if_pos (by omega)] at hp
  have h5 := hr.2 j p hp
  have e2 : ((cur.take (i * d.sz)).drop (j * d.sz)).take d.sz = ((cur.take (n * d.sz)).drop (j * d.sz)).take d.sz := by
    have hm1 : j * d.sz + d.sz ≤ i * d.sz := by rw [← Nat.succ_mul]; exact Nat.mul_le_mul_right _ (by omega)
    have hm2 : i * d.sz ≤ n * d.sz := Nat.mul_le_mul_right _ (by omega)
    refine List.ext_getElem? fun k => ?_
    rw [List.getElem?_take, List.getElem?_take, List.getElem?_drop, List.getElem?_drop, List.getElem?_take, List.getElem?_take]
    by_cases hk : k < d.sz
    · rw [if_pos hk, if_pos hk, if_pos (by omega), if_pos (by omega)]
    · rw [if_neg hk, if_neg hk]
  rw [e2]
  exact h5
/-- What is written behind the row's end is none of its elements. -/
theorem own_behind {g n c : Nat} (h : d.Own e w base ok (.slice (some ⟨g, 0, none⟩) n c) xs) {o : Nat} (ho : n * d.sz ≤ o) (cs : List Value) : d.Own e (w.setCells g o cs) base ok (.slice (some ⟨g, 0, none⟩) n c) xs := by
  obtain ⟨g', cur, e1, hn, hb, hB, h1, h2, h3, hr⟩ := own_open h
  injection e1 with e1
  subst e1
  have hg := grown_setCells w g o cs
  refine own_shut hb (hB.sets cs _) hn h1 h2 (by rw [over_length]; exact h3) ?_
  rw [over_take_same _ _ _ _ ho]
  exact ⟨hr.1, fun j p hp => d.move (fun k hk hlt => hg.block k hlt hk.2) (hr.2 j p hp)⟩
/-- 'clear(v[i:])': the run. -/
theorem run_clear_own {P : Program} {t ty : TypeId} {z : Value} {g n c i : Nat} (ht : P.underlying t = some (.slice e)) (hv : ∀ w, (zeroValue e).run P w = .ok z w) (hz : z.cells.size = d.sz) (h1 : ∀ u ∈ z.cells.toList, u.oneCell' = true)
    (h : d.Own e w base ok (.slice (some ⟨g, 0, none⟩) n c) xs) (_hi : i ≤ n) (hlt : i < n) (cc : Nat) :
    ∃ vs, (Builtin.clear_ #[t] ty #[.slice (some ⟨g, i * d.sz, none⟩) (n - i) cc]).run P w = .ok (.tuple #[]) (w.setCells g (i * d.sz) vs) := by
  obtain ⟨g', cur, e1, hn, hb, hB, h1', h2, h3, hr⟩ := own_open h
  injection e1 with e1
  subst e1
  refine ⟨(Builtin.zeroCells z.cells (n - i)).toList, ?_⟩
  have hlen : (Builtin.zeroCells z.cells (n - i)).toList.length = (n - i) * d.sz := by rw [Array.length_toList, size_zeroCells, hz]
  have hle : i * d.sz + (n - i) * d.sz ≤ cur.length := by rw [h3, ← Nat.add_mul]; exact Nat.mul_le_mul_right _ (by omega)
  have hst := run_storeCells_cells (P := P) g (i * d.sz) (Builtin.zeroCells z.cells (n - i)).toList 0 w
    (fun j hj => by rw [hB.cell, List.getElem?_eq_getElem (by omega)]; rfl) (fun j _ => hB.frozen _)
    (fun u hu => by
      obtain ⟨k, hk, rfl⟩ := List.getElem_of_mem hu
      have hk2 := hk
      rw [hlen] at hk2
      have hp : 0 < z.cells.size := by
        rcases Nat.eq_zero_or_pos z.cells.size with h0 | h0
        · rw [← hz, h0, Nat.mul_zero] at hk2; omega
        · exact h0
      apply h1
      have e2 : (Builtin.zeroCells z.cells (n - i)).toList[k] = z.cells[k % z.cells.size]'(Nat.mod_lt _ hp) := by
        simp [Builtin.zeroCells, getElem!_pos, Nat.mod_lt _ hp]
      rw [e2, Array.mem_toList_iff]
      exact Array.getElem_mem _)
  obtain ⟨m, hm⟩ : ∃ m, n - i = m + 1 := ⟨n - i - 1, by omega⟩
  rw [hm] at hst ⊢
  simp only [Nat.add_zero] at hst
  simp [Builtin.clear_, run_underlying ht, hv, hst]
end Rp
end Go.Proofs.WK
namespace Go.Proofs.WK
open Go.RowKit Rp
namespace Rp
section
variable {α : Type} {P : Program} {ops : Array Oper} {rest : List Oper} {o : Oper} {a : Act} {Q : Exit → Act → World → Prop} {ok : Nat → Prop} {v : Value} {xs : List α}
/-- The operation, in world W, where block B is the element just laid. -/
theorem wp_one {w0 W : World} {K : Act → World → Prop} (d : Rp α) (base : Nat) (s x : Operand) (t e : TypeId) (z : Value) (bytes : Nat)
    (ho : o.op = .call { callee := .builtin .append, args := #[s, x], argTypes := #[t, t] })
    (ht : P.underlying t = some (.slice e)) (hinfo : (P.info? e).map (fun i => (i.zero, i.size, i.bytes)) = some (some z, d.sz, bytes)) (hz : z.cells.size = d.sz) (hs0 : 0 < d.sz) (hb0 : 0 < bytes)
    (v : Value) (xs : List α) (p : α) (ys : List Value) (ok : Nat → Prop) (B c : Nat) (hs : a.eval s = v) (hx : a.eval x = .slice (some ⟨B, 0, none⟩) 1 c)
    (hB : ∃ t fr, W.heap[B]? = some (.cells ys.toArray t fr)) (hp : d.K W (fun k => ok k ∧ some k ≠ v.ownBlock) p ys)
    (HO : d.Own e W base ok v xs) (HB : Below base w0 W) (hbase : base ≤ W.heap.size) (hl : (xs.length + 1) * bytes ≤ 140737488355328)
    (h : ∀ v1 w1, d.Own e w1 base ok v1 (xs ++ [p]) → Below base w0 w1 → W.grownBy w1 v.ownBlock → (v1.ownBlock = v.ownBlock ∨ ∃ b, v1.ownBlock = some b ∧ W.heap.size ≤ b) → K (a.put o.dst v1) w1) : o.wp P a W K Q := by
  obtain ⟨i0, hi, hzz⟩ := Option.map_eq_some_iff.1 hinfo
  simp only [Prod.mk.injEq] at hzz
  obtain ⟨hz0, hz1, hz2⟩ := hzz
  have hlen : xs.length + 1 ≤ 140737488355328 := Nat.le_trans (Nat.le_mul_of_pos_right _ hb0) hl
  have hlt := HO.lt
  obtain ⟨inner, hown, hr⟩ := HO
  have hys := d.len hp
  obtain ⟨tB, fr, hB⟩ := hB
  obtain ⟨v1, w1, hrun, hown1, hg, _, hat⟩ := run_append_own_at (P := P) W base t o.type e i0 z d.sz bytes ht hi hz0 hz1 hz2 hz hs0 v xs.length inner hown ⟨B, 0, none⟩ 1 c ys (by rw [hys]; simp)
    (fun j u hu => World.news_of_block hB j u (by simpa using hu)) (d.one hp) (by simp only [maxLen]; omega) hl hbase
  have hat1 : v1.ownBlock = v.ownBlock ∨ ∃ b, v1.ownBlock = some b ∧ W.heap.size ≤ b := by
    rcases hat with hat | hat
    · exact .inl hat
    · exact .inr ⟨_, hat, Nat.le_refl _⟩
  unfold Oper.wp execOp
  simp only [ho, resolve, invoke, builtin, Sem.run_bind, Sem.run_pure, Result.andThen_ok, List.map_toArray, List.map_cons, List.map_nil, hs, hx, hrun]
  refine h v1 w1 (Own.appended (ys := [p]) hr ⟨by simp [hys], fun j q hq => ?_⟩ hown1 hg hat1) (HB.grown hg hbase (fun k hk => (hlt k hk).1)) hg hat1
  match j, hq with
  | 0, hq =>
    obtain rfl : p = q := by simpa using hq
    rw [Nat.zero_mul, List.drop_zero, ← hys, List.take_length]
    exact hp
theorem list_one {w0 W : World} (d : Rp α) (base : Nat) (hgd : o.guard = none) (s x : Operand) (t e : TypeId) (z : Value) (bytes : Nat)
    (ho : o.op = .call { callee := .builtin .append, args := #[s, x], argTypes := #[t, t] })
    (ht : P.underlying t = some (.slice e)) (hinfo : (P.info? e).map (fun i => (i.zero, i.size, i.bytes)) = some (some z, d.sz, bytes)) (hz : z.cells.size = d.sz) (hs0 : 0 < d.sz) (hb0 : 0 < bytes)
    (v : Value) (xs : List α) (p : α) (ys : List Value) (ok : Nat → Prop) (B c : Nat) (hs : a.eval s = v) (hx : a.eval x = .slice (some ⟨B, 0, none⟩) 1 c)
    (hB : ∃ t fr, W.heap[B]? = some (.cells ys.toArray t fr)) (hp : d.K W (fun k => ok k ∧ some k ≠ v.ownBlock) p ys)
    (HO : d.Own e W base ok v xs) (HB : Below base w0 W) (hbase : base ≤ W.heap.size) (hl : (xs.length + 1) * bytes ≤ 140737488355328)
    (h : ∀ v1 w1, d.Own e w1 base ok v1 (xs ++ [p]) → Below base w0 w1 → W.grownBy w1 v.ownBlock → (v1.ownBlock = v.ownBlock ∨ ∃ b, v1.ownBlock = some b ∧ W.heap.size ≤ b) → wpList P ops Q rest (a.put o.dst v1) w1) : wpList P ops Q (o :: rest) a W :=
  wpList_plain hgd fun _ hK => wp_one d base s x t e z bytes ho ht hinfo hz hs0 hb0 v xs p ys ok B c hs hx hB hp HO HB hbase hl fun v1 w1 h1 h2 h3 h4 => hK _ _ (h v1 w1 h1 h2 h3 h4)
theorem step_one {w0 W : World} {K : Act → World → Prop} {E : Prop} (d : Rp α) (base : Nat) (hgd : o.guard = none) (s x : Operand) (t e : TypeId) (z : Value) (bytes : Nat)
    (ho : o.op = .call { callee := .builtin .append, args := #[s, x], argTypes := #[t, t] })
    (ht : P.underlying t = some (.slice e)) (hinfo : (P.info? e).map (fun i => (i.zero, i.size, i.bytes)) = some (some z, d.sz, bytes)) (hz : z.cells.size = d.sz) (hs0 : 0 < d.sz) (hb0 : 0 < bytes)
    (v : Value) (xs : List α) (p : α) (ys : List Value) (ok : Nat → Prop) (B c : Nat) (hs : a.eval s = v) (hx : a.eval x = .slice (some ⟨B, 0, none⟩) 1 c)
    (hB : ∃ t fr, W.heap[B]? = some (.cells ys.toArray t fr)) (hp : d.K W (fun k => ok k ∧ some k ≠ v.ownBlock) p ys)
    (HO : d.Own e W base ok v xs) (HB : Below base w0 W) (hbase : base ≤ W.heap.size) (hl : (xs.length + 1) * bytes ≤ 140737488355328)
    (h : ∀ v1 w1, d.Own e w1 base ok v1 (xs ++ [p]) → Below base w0 w1 → W.grownBy w1 v.ownBlock → (v1.ownBlock = v.ownBlock ∨ ∃ b, v1.ownBlock = some b ∧ W.heap.size ≤ b) → K (a.put o.dst v1) w1) :
    if Region.wanted o (yielded ops a.tmps) = true then Oper.wp P o a W K Q else E := by
  have hw : Region.wanted o (yielded ops a.tmps) = true := by simp [Region.wanted, hgd]
  rw [if_pos hw]
  exact wp_one d base s x t e z bytes ho ht hinfo hz hs0 hb0 v xs p ys ok B c hs hx hB hp HO HB hbase hl h
end
theorem blk_new (w : World) (cs : List Value) (t : TypeId) : ∃ t' fr, (w.alloc (.cells cs.toArray t)).heap[w.heap.size]? = some (.cells cs.toArray t' fr) := ⟨t, _, heap_alloc_new w _⟩
theorem blk_new2 (w : World) (o : Obj) (cs : List Value) (t : TypeId) : ∃ t' fr, ((w.alloc o).alloc (.cells cs.toArray t)).heap[w.heap.size + 1]? = some (.cells cs.toArray t' fr) := by
  have h := blk_new (w.alloc o) cs t
  rwa [show (w.alloc o).heap.size = w.heap.size + 1 by simp] at h
end Rp
end Go.Proofs.WK
namespace Go.Proofs.WK
open Go.RowKit
/-- Each operation waits for operations ahead of it in the text alone. -/
def backB (ops : Array Oper) : Bool := (List.range ops.size).all fun i => ((ops[i]?).map fun o => o.after.toList.all fun e => decide (e.on < i)).getD true
theorem backB_at {ops : Array Oper} (h : backB ops = true) {i : Nat} {o : Oper} (ho : ops[i]? = some o) : ∀ e ∈ o.after, e.on < i := by
  intro e he
  have hi := (Array.getElem?_eq_some_iff.1 ho).1
  have h1 := List.all_eq_true.1 h i (List.mem_range.2 hi)
  rw [ho] at h1
  simp only [Option.map_some, Option.getD_some, List.all_eq_true, decide_eq_true_eq] at h1
  exact h1 e (Array.mem_toList_iff.2 he)
theorem count_set {l : List Bool} : ∀ {i : Nat}, l[i]? = some false → (l.set i true).count false + 1 = l.count false := by
  induction l with
  | nil => intro i h; simp at h
  | cons b l ih =>
    intro i h
    cases i with
    | zero =>
      obtain rfl : b = false := by simpa using h
      simp
    | succ i =>
      have h1 := ih (i := i) (by simpa using h)
      rw [List.set_cons_succ, List.count_cons, List.count_cons]
      omega
theorem count_zero {l : List Bool} (h : l.count false = 0) {i : Nat} (hi : i < l.length) : l[i]? = some true := by
  have h1 := List.count_eq_zero.1 h
  rw [List.getElem?_eq_getElem hi]
  cases hb : l[i] with
  | false => exact absurd (hb ▸ List.getElem_mem hi) h1
  | true => rfl
section
variable {P : Program} {ops : Array Oper} {Q : Exit → Act → World → Prop} {id : Nat}
theorem ready_nil {L : Array Bool} (hs : L.size = ops.size) (hd : backB ops = true) (h : Region.ready .any ops L = []) : ∀ i, i < ops.size → L[i]? = some true := by
  intro i
  induction i using Nat.strongRecOn with
  | ind i ih =>
    intro hi
    cases hL : L[i]? with
    | none => rw [Array.getElem?_eq_none_iff] at hL; omega
    | some b =>
      cases b with
      | true => rfl
      | false =>
        have : i ∈ Region.ready .any ops L := by
          refine mem_ready.2 ⟨by rw [Array.getD_eq_getD_getElem?, hL]; rfl, ops[i], Array.getElem?_eq_getElem hi, fun e he _ => ?_⟩
          have hlt := backB_at hd (Array.getElem?_eq_getElem hi) e he
          rw [Array.getD_eq_getD_getElem?, ih e.on hlt (by omega)]
          rfl
        rw [h] at this
        cases this
/-- J is what holds whichever operations (those of L) have come up. -/
theorem region_facts {a : Act} {w : World} (J : Array Bool → Act → World → Prop) (hm : P.follows .mixedOrders = true) (hd : backB ops = true) (h0 : J (Array.replicate ops.size false) a w.drew)
    (hstep : ∀ (i : Nat) (o : Oper) (L : Array Bool) (a : Act) (w : World), ops[i]? = some o → L.size = ops.size → L[i]? = some false → (∀ e ∈ o.after, Region.binds .any e = true → L[e.on]? = some true) → J L a w →
      ∀ K' : Act → World → Prop, (∀ a w, J (L.setIfInBounds i true) a w → K' a w) → if Region.wanted o (yielded ops a.tmps) = true then Oper.wp P o a w K' Q else K' (a.put o.dst undef) w)
    (hend : ∀ (L : Array Bool) a w, (∀ i, i < ops.size → L[i]? = some true) → J L a w → Q .normal a w) : (Code.region id ops true).wp P Q a w := by
  refine wp_region_any hm ?_
  have key : ∀ (fuel : Nat) (L : Array Bool) (a : Act) (w : World), L.size = ops.size → L.toList.count false ≤ fuel → J L a w → wpAny P .any ops Q fuel L a w := by
    intro fuel
    induction fuel with
    | zero =>
      intro L a w hs hc hJ
      have hall : ∀ i, i < ops.size → L[i]? = some true := fun i hi => by
        have := count_zero (l := L.toList) (by omega) (i := i) (by rw [Array.length_toList]; omega)
        rwa [Array.getElem?_toList] at this
      refine ⟨?_, hend L a w hall hJ⟩
      rw [List.eq_nil_iff_forall_not_mem]
      intro i hi
      obtain ⟨h1, o, ho, _⟩ := mem_ready.1 hi
      rw [Array.getD_eq_getD_getElem?, hall i (Array.getElem?_eq_some_iff.1 ho).1] at h1
      cases h1
    | succ fuel ih =>
      intro L a w hs hc hJ
      refine ⟨fun h => hend L a w (ready_nil hs hd h) hJ, fun i hi => ?_⟩
      obtain ⟨h1, o, ho, h2⟩ := mem_ready.1 hi
      have hio := (Array.getElem?_eq_some_iff.1 ho).1
      have hLi : L[i]? = some false := by
        rw [Array.getElem?_eq_getElem (by omega)]
        rw [Array.getD_eq_getD_getElem?, Array.getElem?_eq_getElem (by omega), Option.getD_some] at h1
        rw [h1]
      refine wpOp_step ho fun K' hK => hstep i o L a w ho hs hLi (fun e he hb => ?_) hJ K' fun a' w' hJ' => hK a' w' (ih _ a' w' (by simpa using hs) ?_ hJ')
      · have h3 := h2 e he hb
        have hlt := backB_at hd ho e he
        rw [Array.getD_eq_getD_getElem?, Array.getElem?_eq_getElem (by omega), Option.getD_some] at h3
        rw [Array.getElem?_eq_getElem (by omega), h3]
      · have h3 := count_set (l := L.toList) (i := i) (by rw [Array.getElem?_toList]; exact hLi)
        rw [Array.toList_setIfInBounds]
        omega
  refine key ops.size _ a _ (by simp) ?_ h0
  rw [Array.toList_replicate, List.count_replicate]
  simp
end
end Go.Proofs.WK
namespace Go.Proofs.WK
open Go.RowKit Go.Maps

/-- Keys of type k as Lean has them. -/
structure KT (P : Program) (k : TypeId) (κ : Type) where
  kv : κ → Value
  kf : κ → Lit
  okk : κ → Prop
  law : Keyed P k
  key : ∀ x, okk x → keyOf P k (kv x) = some (kf x)
  inv : ∀ v kl, keyOf P k v = some kl → ∃ x, okk x ∧ v = kv x ∧ kl = kf x
  inj : ∀ x y, okk x → okk y → kf x = kf y → x = y
/-- Elements of type e as Lean has them. -/
structure ET (P : Program) (e : TypeId) (ε : Type) where
  ev : ε → Value
  ed : ε → DataW Unit
  oke : ε → Prop
  zero : ε
  okz : oke zero
  elem : ∀ x, oke x → plainElem P e (ev x) = some (ed x, [])
  inv : ∀ v z, plainElem P e v = some z → ∃ x, oke x ∧ v = ev x ∧ z = (ed x, [])
  inj : ∀ x y, ed x = ed y → x = y
  hz : ∀ w, (zeroValue e).run P w = .ok (ev zero) w

noncomputable def i64T {P : Program} {k : TypeId} (hk : P.underlying k = some (.int .i64)) : KT P k Int where
  kv := Value.int .i64
  kf := Lit.int .i64
  okk := fun x => (Lit.int .i64 x).wf = true
  law := int_keyed hk
  key := fun _ h => keyOf_int_mk hk h
  inv := fun v kl h => by obtain ⟨x, rfl, rfl, hw⟩ := Maps.keyOf_int_inv hk h; exact ⟨x, hw, rfl, rfl⟩
  inj := fun _ _ _ _ h => by injection h
theorem i64_wf {x : Int} (h0 : -9223372036854775808 ≤ x) (h1 : x ≤ 9223372036854775807) : (Lit.int .i64 x).wf = true := by
  simp [Lit.wf, IntKind.min, IntKind.max, IntKind.signed, IntKind.bits]; omega
noncomputable def strT {P : Program} {k : TypeId} (hk : P.underlying k = some .string) : KT P k ByteArray where
  kv := Value.string
  kf := fun s => Lit.string s.data.toList
  okk := fun s => s.size ≤ maxLen
  law := string_keyed hk
  key := fun _ h => by simp [keyOf, hk, mapKey, h]
  inv := fun v kl h => by
    cases v <;> simp [keyOf, hk, mapKey] at h
    obtain ⟨h, rfl⟩ := h
    exact ⟨_, h, rfl, rfl⟩
  inj := fun x y _ _ h => by
    cases x; cases y
    injection h with h
    simp at h
    subst h
    rfl
noncomputable def boolE {P : Program} {e : TypeId} (he : P.underlying e = some .bool) (hz : ∀ w, (zeroValue e).run P w = .ok (.bool false) w) : ET P e Bool where
  ev := Value.bool
  ed := fun x => .lit (.bool x)
  oke := fun _ => True
  zero := false
  okz := trivial
  elem := fun x _ => plainElem_bool he x
  inv := fun v z h => by cases v <;> simp [plainElem, he] at h; subst h; exact ⟨_, trivial, rfl, rfl⟩
  inj := fun _ _ h => by injection h with h; injection h
  hz := hz
noncomputable def i64E {P : Program} {e : TypeId} (he : P.underlying e = some (.int .i64)) (hz : ∀ w, (zeroValue e).run P w = .ok (.int .i64 0) w) : ET P e Int where
  ev := Value.int .i64
  ed := fun x => .lit (.int .i64 x)
  oke := fun x => (Lit.int .i64 x).wf = true
  zero := 0
  okz := by decide
  elem := fun x h => plainElem_int he h
  inv := fun v z h => by obtain ⟨a, rfl, rfl, hw⟩ := plainElem_int_inv he h; exact ⟨a, hw, rfl, rfl⟩
  inj := fun _ _ h => by injection h with h; injection h
  hz := hz
noncomputable def strE {P : Program} {e : TypeId} (he : P.underlying e = some .string) (hz : ∀ w, (zeroValue e).run P w = .ok (.string ByteArray.empty) w) : ET P e ByteArray where
  ev := Value.string
  ed := fun x => .lit (.string x.data.toList)
  oke := fun x => x.size ≤ maxLen
  zero := ByteArray.empty
  okz := by decide
  elem := fun x h => plainElem_string he h
  inv := fun v z h => by cases v <;> simp [plainElem, he] at h; obtain ⟨h, rfl⟩ := h; exact ⟨_, h, rfl, rfl⟩
  inj := fun x y h => by
    cases x; cases y
    injection h with h
    injection h with h
    simp at h
    subst h
    rfl
  hz := hz

section
variable {P : Program} {k e t : TypeId} {κ ε : Type}
/-- What a datum says, key by key. -/
def Says (K : KT P k κ) (E : ET P e ε) (D : DataW Unit) (f : κ → Option ε) : Prop :=
  ∀ x, K.okk x → has D (K.kf x) = (f x).isSome ∧ ∀ z, D.atKey (K.kf x) z = match f x with | some y => E.ed y | none => z
/-- Block b is a map of at most n entries that says f. -/
def MapIs (K : KT P k κ) (E : ET P e ε) (w : World) (b n : Nat) (f : κ → Option ε) : Prop := ∃ D, w.ownsMap P k (plainElem P e) b n D ∧ Says K E D f
variable {K : KT P k κ} {E : ET P e ε} {w w' : World} {b n : Nat} {f : κ → Option ε}
theorem MapIs.made (K : KT P k κ) (E : ET P e ε) (w : World) : MapIs K E (w.alloc (.map #[] 0)) w.heap.size 0 (fun _ => none) :=
  ⟨_, World.ownsMap_made w P k _, fun _ _ => ⟨rfl, fun _ => rfl⟩⟩
theorem MapIs.kept (h : MapIs K E w b n f) {row : Option Nat} (hg : w.grownBy w' row) (hne : some b ≠ row) : MapIs K E w' b n f := by
  obtain ⟨D, h1, h2⟩ := h
  exact ⟨D, h1.kept hg hne, h2⟩
theorem MapIs.lt (h : MapIs K E w b n f) : b < w.heap.size := by obtain ⟨D, h1, _⟩ := h; exact h1.lt
theorem MapIs.below (h : MapIs K E w b n f) (hb : Below w.heap.size w w') : MapIs K E w' b n f :=
  h.kept (row := none) ⟨hb.os, hb.tape, hb.output, hb.size, fun i hi _ => hb.block i hi⟩ (by simp)
theorem MapIs.alloc (h : MapIs K E w b n f) (o : Obj) : MapIs K E (w.alloc o) b n f := h.kept (World.grownBy_alloc w o none) (by simp)
theorem says_put [DecidableEq κ] {D : DataW Unit} (hD : IsMap D) (h : Says K E D f) (x : κ) (hx : K.okk x) (y : ε) : Says K E (D.put (K.kf x) (E.ed y)) (fun z => if z = x then some y else f z) := by
  intro z hz
  have hk : WideAt.IsKeyLit (K.kf x) := K.law.key (K.key x hx)
  show has _ _ = (if z = x then some y else f z).isSome ∧ ∀ d : DataW Unit, _ = match (if z = x then some y else f z) with | some y => E.ed y | none => d
  by_cases he : z = x
  · subst he
    rw [if_pos rfl]
    exact ⟨has_put_same hD hk _, fun d => atKey_put_same hD hk _ _⟩
  · have hne : K.kf z ≠ K.kf x := fun e => he (K.inj _ _ hz hx e)
    rw [if_neg he]
    refine ⟨by rw [has_put_other hne]; exact (h z hz).1, fun d => by rw [atKey_put_other hne]; exact (h z hz).2 d⟩

variable {ops : Array Oper} {rest : List Oper} {o : Oper} {a : Act} {Q : Exit → Act → World → Prop}
/-- 'm[x]'. -/
theorem map_look (hg : o.guard = none) (m x : Operand) (hop : o.op = Op.lookup t m x false) (ht : P.underlying t = some (.map k e)) (hm : a.eval m = .map (some b)) (h : MapIs K E w b n f) (key : κ) (hx : a.eval x = K.kv key) (hkey : K.okk key)
    (hK : wpList P ops Q rest (a.put o.dst (E.ev ((f key).getD E.zero))) w) : wpList P ops Q (o :: rest) a w := by
  obtain ⟨D, h1, h2⟩ := h
  obtain ⟨v, ps, hrun, hR⟩ := h1.lookup K.law ht (E.hz w) (E.elem _ E.okz) (K.key key hkey)
  obtain ⟨y, _, rfl, e1⟩ := E.inv _ _ hR
  rw [(h2 key hkey).2] at e1
  injection e1 with e1 _
  have e2 : y = (f key).getD E.zero := by
    cases hf : f key with
    | none => rw [hf] at e1; exact (E.inj _ _ e1).symm
    | some u => rw [hf] at e1; exact (E.inj _ _ e1).symm
  subst e2
  refine wpList_plain hg fun K' hK' => ?_
  unfold Oper.wp
  simp [execOp, hop, hm, hx, hrun, Result.andThen]
  exact hK' _ _ hK
/-- What 'm[x]' answers. -/
theorem map_run {t : TypeId} (ht : P.underlying t = some (.map k e)) (h : MapIs K E w b n f) (key : κ) (hkey : K.okk key) :
    (Instr.lookup t (.map (some b)) (K.kv key) false).run P w = .ok (E.ev ((f key).getD E.zero)) w := by
  obtain ⟨D, h1, h2⟩ := h
  obtain ⟨v, ps, hrun, hR⟩ := h1.lookup K.law ht (E.hz w) (E.elem _ E.okz) (K.key key hkey)
  obtain ⟨y, _, rfl, e1⟩ := E.inv _ _ hR
  rw [(h2 key hkey).2] at e1
  injection e1 with e1 _
  have e2 : y = (f key).getD E.zero := by
    cases hf : f key with
    | none => rw [hf] at e1; exact (E.inj _ _ e1).symm
    | some u => rw [hf] at e1; exact (E.inj _ _ e1).symm
  subst e2
  exact hrun
/-- 'm[x] = y'. -/
theorem map_put [DecidableEq κ] (hg : o.guard = none) (m x v : Operand) (hop : o.op = Op.mapUpdate t m x v) (ht : P.underlying t = some (.map k e)) (hm : a.eval m = .map (some b)) (h : MapIs K E w b n f) (hn : n < maxLen) (key : κ) (hx : a.eval x = K.kv key) (hkey : K.okk key)
    (y : ε) (hv : a.eval v = E.ev y) (hy : E.oke y)
    (hK : ∀ w', MapIs K E w' b (n + 1) (fun z => if z = key then some y else f z) → w.grownBy w' (some b) → wpList P ops Q rest (a.put o.dst undef) w') : wpList P ops Q (o :: rest) a w := by
  obtain ⟨D, h1, h2⟩ := h
  have hD : IsMap D := by obtain ⟨es, clock, _, _, _, rfl⟩ := h1; exact ⟨_, rfl⟩
  refine wpList_mapUpdate_own w hg m x v t hop k e K.law ht (plainElem P e) b n D hm h1 hn _ _ (K.kf key) hx hv (K.key key hkey) (E.ed y) [] (E.elem y hy) ?_
  intro w' r1 r2
  exact hK w' ⟨_, r1, says_put hD h2 key hkey y⟩ r2

/-- 'for x, y := range m' under way: left tells which keys are still to come. -/
def Ranging (K : KT P k κ) (E : ET P e ε) (w : World) (b r n : Nat) (f : κ → Option ε) (left : κ → Prop) : Prop :=
  ∃ D lf cnt, w.ranges P k (plainElem P e) b r n D lf cnt ∧ Says K E D f ∧ ∀ x, K.okk x → (lf (K.kf x) = true ↔ left x)
theorem Ranging.map {r : Nat} {left : κ → Prop} (h : Ranging K E w b r n f left) : MapIs K E w b n f := by
  obtain ⟨D, lf, cnt, h1, h2, _⟩ := h
  exact ⟨D, h1.owns, h2⟩
theorem Ranging.kept {r : Nat} {left : κ → Prop} (h : Ranging K E w b r n f left) {row : Option Nat} (hg : w.grownBy w' row) (hb : some b ≠ row) (hr : some r ≠ row) : Ranging K E w' b r n f left := by
  obtain ⟨D, lf, cnt, h1, h2, h3⟩ := h
  exact ⟨D, lf, cnt, h1.kept hg hb hr, h2, h3⟩
theorem Ranging.lt {r : Nat} {left : κ → Prop} (h : Ranging K E w b r n f left) : r < w.heap.size := by obtain ⟨D, lf, cnt, h1, _⟩ := h; exact h1.lt
theorem Ranging.below {r : Nat} {left : κ → Prop} (h : Ranging K E w b r n f left) (hb : Below w.heap.size w w') : Ranging K E w' b r n f left :=
  h.kept (row := none) ⟨hb.os, hb.tape, hb.output, hb.size, fun i hi _ => hb.block i hi⟩ (by simp) (by simp)
theorem Ranging.left_below {r : Nat} {left : κ → Prop} (h : Ranging K E w b r n f left) (hb : Below w.heap.size w w') : w'.rangeLeft b r = w.rangeLeft b r := by
  obtain ⟨D, lf, cnt, h1, _⟩ := h
  have h2 := h1.kept (w' := w') (row := none) ⟨hb.os, hb.tape, hb.output, hb.size, fun i hi _ => hb.block i hi⟩ (by simp) (by simp)
  rw [h1.left_eq, h2.left_eq]
/-- 'range m'. -/
theorem map_range (hg : o.guard = none) (m : Operand) (hop : o.op = Op.range t m) (ht : P.underlying t = some (.map k e)) (hm : a.eval m = .map (some b)) (h : MapIs K E w b n f)
    (hK : ∀ w', Ranging K E w' b w.heap.size n f (fun x => (f x).isSome = true) → Below w.heap.size w w' → wpList P ops Q rest (a.put o.dst (.pointer (some ⟨w.heap.size, 0, none⟩))) w') : wpList P ops Q (o :: rest) a w := by
  obtain ⟨D, h1, h2⟩ := h
  refine wpList_range_own w hg m t hop k e K.law ht (plainElem P e) b n D hm h1 ?_
  intro w' r1 r2 _
  exact hK w' ⟨D, _, _, r1, h2, fun x hx => by rw [(h2 x hx).1]⟩ ⟨r2.os, r2.tape, r2.output, r2.size, fun i hi => r2.block i hi (by simp)⟩
/-- The step: nothing is left, or a key has come. -/
theorem map_next {r : Nat} {left : κ → Prop} (hg : o.guard = none) (it : Operand) (hop : o.op = Op.next it false) (hit : a.eval it = .pointer (some ⟨r, 0, none⟩)) (h : Ranging K E w b r n f left)
    (hDone : (∀ x, K.okk x → ¬ left x) → wpList P ops Q rest (a.put o.dst (.tuple #[.bool false])) w)
    (hMore : ∀ (x : κ) (y : ε) (w' : World), K.okk x → left x → f x = some y → Ranging K E w' b r n f (fun z => left z ∧ z ≠ x) → w'.rangeLeft b r < w.rangeLeft b r →
      w.grownBy w' (some r) → w'.heap.size = w.heap.size → (Instr.entry (.pointer (some ⟨r, 0, none⟩))).run P w' = .ok (.tuple #[K.kv x, E.ev y]) w' → wpList P ops Q rest (a.put o.dst (.tuple #[.bool true, K.kv x, E.ev y])) w') :
    wpList P ops Q (o :: rest) a w := by
  obtain ⟨D, lf, cnt, h1, h2, h3⟩ := h
  refine wpList_next_ranges w hg it hop k K.law (plainElem P e) K.kv E.ev (fun key kl hkey => by obtain ⟨x, _, rfl, _⟩ := K.inv _ _ hkey; exact ⟨x, rfl⟩) (fun v y hv => by obtain ⟨c, _, rfl, _⟩ := E.inv _ _ hv; exact ⟨c, rfl⟩)
    b r n D lf cnt hit h1 (fun _ hl => hDone fun x hx hlx => by have := (h3 x hx).2 hlx; rw [hl] at this; cases this) ?_
  intro x y kl z w' cnt' hkey hlk hR hat hrg hlt hgr hsz hen
  obtain ⟨x', hx, e1, e2⟩ := K.inv _ _ hkey
  subst e2
  obtain ⟨y', hy', e3, rfl⟩ := E.inv _ _ hR
  have hfx : f x' = some y' := by
    have h5 := h2 x' hx
    cases hf : f x' with
    | none =>
      rw [hf] at h5
      have a1 := (h5.2 (.lit (.bool true))).symm.trans (hat _)
      have a2 := (h5.2 (.lit (.bool false))).symm.trans (hat _)
      rw [← a2] at a1
      cases a1
    | some u =>
      rw [hf] at h5
      have a1 := (h5.2 (.lit (.bool true))).symm.trans (hat _)
      rw [E.inj _ _ a1]
  rw [e1, e3] at hen ⊢
  refine hMore x' y' w' hx ((h3 x' hx).1 hlk) hfx ⟨D, _, cnt', hrg, h2, fun u hu => ?_⟩ (by rw [hrg.left_eq, h1.left_eq]; exact hlt) hgr hsz hen
  simp only [Bool.and_eq_true, Bool.not_eq_true']
  rw [h3 u hu]
  refine and_congr_right fun _ => ?_
  constructor
  · rintro h5 rfl
    rw [WideAt.sameKey_self (K.law.key (K.key _ hu))] at h5
    cases h5
  · intro h5
    exact Maps.sameKey_ne fun e => h5 (K.inj _ _ hu hx e)
end
end Go.Proofs.WK
