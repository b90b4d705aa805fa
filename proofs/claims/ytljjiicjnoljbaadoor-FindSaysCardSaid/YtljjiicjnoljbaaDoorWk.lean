/-
  The base of this session's walks, of no program: what a value's cells say (Rp), rows that are read (Row, Sl), rows of the call's own (Own), append, boxes.
-/
import Derived.Below
import Derived.Deep.Draws
import Derived.Deep.AppendLies
import Derived.Maps.AppendAt
import Derived.OwnWalk
import Derived.Laws.MakeOwn
import Derived.Laws.OwnMore
import Derived.Deep.OwnRows
import Derived.Tactics
import Derived.Laws.Slices
import Derived.WalkKit
import Derived.KernelRfl
import Derived.RowKit3
import Derived.Deep.LoopGhost
import Derived.Deep.QuietTactic
import Derived.BigQuiet
import Derived.WideLaws
import Derived.Deep.DeepCutAuto
import Derived.Deep.CutBlock
import Derived.Deep.RegionHeld3
import Derived.Laws.Rows
import Derived.Lib.AppendStr
import Derived.WalkSpells
import Derived.WalkLawsBesides
import Derived.RowKit
namespace Go.Proofs.WK
open Go.RowKit

/-- A fact that the walk's simp doesn't look into. -/
structure Aside (p : Prop) : Prop where mk :: (out : p)

theorem add_block (a : Addr) (i : Nat) : (a.add i).block = a.block := by unfold Addr.add; split <;> rfl
theorem add_add (a : Addr) (i j : Nat) : (a.add i).add j = a.add (i + j) := by
  unfold Addr.add
  by_cases hi : i = 0 <;> by_cases hj : j = 0 <;> simp [hi, hj, Nat.add_assoc]
theorem add_plain (g j : Nat) : (⟨g, 0, none⟩ : Addr).add j = ⟨g, j, none⟩ := by unfold Addr.add; split <;> simp_all
/-- A field's address as the walk spells it. -/
theorem add_field (ad : Addr) (m j : Nat) (hj : 0 < j) : ad.add (m + j) = ⟨(ad.add m).block, (ad.add m).off + j, none⟩ := by
  unfold Addr.add
  by_cases hm : m = 0
  · subst hm
    simp [Nat.ne_of_gt hj]
  · simp [hm, Nat.add_assoc]

/-! ### the world -/
theorem below_alloc {B : Nat} {w W : World} (h : Below B w W) (o : Obj) (hB : B ≤ W.heap.size) : Below B w (W.alloc o) := h.alloc hB o
theorem below_drewN {B : Nat} {w W : World} (h : Below B w W) (n : Nat) : Below B w (W.drewN n) := ⟨h.os, h.tape, h.output, h.size, h.block⟩
/-- Two stretches, each of which leaves alone what was there when it began. -/
theorem below_step {w W w2 : World} (h : Below w.heap.size w W) (k : Below W.heap.size W w2) : Below w.heap.size w w2 :=
  h.trans ⟨k.os, k.tape, k.output, k.size, fun i hi => k.block i (Nat.lt_of_lt_of_le hi h.size)⟩
theorem below_of_grown {w W : World} (h : Below w.heap.size w W) {w2 : World} {row : Option Nat} (hg : W.grownBy w2 row) (hr : ∀ k, row = some k → w.heap.size ≤ k) : Below w.heap.size w w2 := h.grown hg h.size hr
theorem below_set {w W : World} (h : Below w.heap.size w W) {p : Addr} (hp : w.heap.size ≤ p.block) (u : Value) : Below w.heap.size w (W.setCell p u) := h.setCell hp u
theorem cell_below {w w1 : World} (h : Below w.heap.size w w1) {a : Addr} {v : Value} (hc : w.cell? a = some v) : w1.cell? a = some v := (h.cell (World.block_lt_of_cell? w a hc)).trans hc

/-- What stood reads as before, as rules for the walk. -/
theorem bcell {W w1 : World} (hb : Below W.heap.size W w1) : (∀ b o, b < W.heap.size → w1.cell? ⟨b, o, none⟩ = W.cell? ⟨b, o, none⟩) ∧ (∀ b o, b < W.heap.size → w1.frozen? ⟨b, o, none⟩ = W.frozen? ⟨b, o, none⟩) :=
  ⟨fun b o h => hb.cell (p := ⟨b, o, none⟩) h, fun b o h => hb.frozen (p := ⟨b, o, none⟩) h⟩
/-- Nothing but draws. -/
def Drawn (w w' : World) : Prop := ∃ n, w' = w.drewN n
theorem Drawn.refl (w : World) : Drawn w w := ⟨0, rfl⟩
theorem Drawn.step {w w' : World} (h : Drawn w w') (n : Nat) : Drawn w (w'.drewN n) := by
  obtain ⟨m, rfl⟩ := h
  exact ⟨m + n, World.drewN_drewN ..⟩
theorem Drawn.below {w w' : World} (h : Drawn w w') : Below w.heap.size w w' := by
  obtain ⟨n, rfl⟩ := h
  exact below_drewN (Below.refl _ _) n

/-! ### what a value's cells say -/
/-- sz cells; K w ok x cs: the cells cs say x in the world w, and what they lead to lies in blocks that are ok. -/
structure Rp (α : Type) where
  sz : Nat
  K : World → (Nat → Prop) → α → List Value → Prop
  len : ∀ {w ok x cs}, K w ok x cs → cs.length = sz
  one : ∀ {w ok x cs}, K w ok x cs → ∀ u ∈ cs, u.oneCell' = true
  mono : ∀ {w : World} {ok ok' x cs}, (∀ k, ok k → k < w.heap.size → ok' k) → K w ok x cs → K w ok' x cs
  move : ∀ {w w1 : World} {ok x cs}, (∀ k, ok k → k < w.heap.size → w1.heap[k]? = w.heap[k]?) → K w ok x cs → K w1 ok x cs

namespace Rp
variable {α β : Type} {d : Rp α} {w w1 : World} {ok ok' : Nat → Prop} {xs : List α} {A : Option Addr} {v : Value}

/-- A row of elements that is read. -/
def Row (d : Rp α) (w : World) (ok : Nat → Prop) (A : Option Addr) (xs : List α) : Prop :=
  xs.length ≤ 9223372036854775807 ∧ ∀ j p, xs[j]? = some p → ∃ ad, A = some ad ∧ ok ad.block ∧ ad.block < w.heap.size ∧ ∃ c, d.K w ok p c ∧ ∀ i u, c[i]? = some u → w.cell? (ad.add (j * d.sz + i)) = some u
/-- A slice's value that reads as xs. -/
def Sl (d : Rp α) (w : World) (ok : Nat → Prop) (v : Value) (xs : List α) : Prop := ∃ A c, v = .slice A xs.length c ∧ xs.length ≤ c ∧ d.Row w ok A xs

theorem Row.mono (h : d.Row w ok A xs) (hk : ∀ k, ok k → k < w.heap.size → ok' k) : d.Row w ok' A xs :=
  ⟨h.1, fun j p hp => by
    obtain ⟨ad, e, h1, h2, c, hc, h3⟩ := h.2 j p hp
    exact ⟨ad, e, hk _ h1 h2, h2, c, d.mono hk hc, h3⟩⟩
theorem Row.move (h : d.Row w ok A xs) (hk : ∀ k, ok k → k < w.heap.size → w1.heap[k]? = w.heap[k]?) : d.Row w1 ok A xs :=
  ⟨h.1, fun j p hp => by
    obtain ⟨ad, e, h1, h2, c, hc, h3⟩ := h.2 j p hp
    have hb := hk _ h1 h2
    refine ⟨ad, e, h1, ?_, c, d.move hk hc, fun i u hu => ?_⟩
    · rw [Array.getElem?_eq_getElem h2] at hb
      exact (Array.getElem?_eq_some_iff.1 hb).1
    · exact (World.cell?_of_block (w := w) (by rw [add_block]; exact hb)).trans (h3 i u hu)⟩
theorem Row.below (h : d.Row w ok A xs) (hb : Below w.heap.size w w1) : d.Row w1 ok A xs := h.move fun k _ hk => hb.block k hk
theorem Row.nil : d.Row w ok A [] := ⟨by simp, fun j p h => by simp at h⟩
theorem Row.at_ (h : d.Row w ok A xs) {k : Nat} (hk : k < xs.length) : ∃ ad c, A = some ad ∧ ad.block < w.heap.size ∧ ok ad.block ∧ d.K w ok xs[k] c ∧ ∀ i u, c[i]? = some u → w.cell? (ad.add (k * d.sz + i)) = some u := by
  obtain ⟨ad, e, h1, h2, c, hc, h3⟩ := h.2 k _ (List.getElem?_eq_getElem hk)
  exact ⟨ad, c, e, h2, h1, hc, h3⟩
theorem Row.take (h : d.Row w ok A xs) (n : Nat) : d.Row w ok A (xs.take n) :=
  ⟨Nat.le_trans (by simp; omega) h.1, fun j p hp => by
    rw [List.getElem?_take] at hp
    split at hp
    · exact h.2 j p hp
    · cases hp⟩
theorem Row.drop (h : d.Row w ok A xs) {n c : Nat} (hn : n ≤ xs.length) (hc : xs.length ≤ c) : d.Row w ok (if c = n then A else A.map (·.add (n * d.sz))) (xs.drop n) :=
  ⟨Nat.le_trans (by simp) h.1, fun j p hp => by
    rw [List.getElem?_drop] at hp
    obtain ⟨ad, rfl, h1, h2, c', hc', h3⟩ := h.2 _ p hp
    have hl := (List.getElem?_eq_some_iff.1 hp).1
    rw [if_neg (by omega)]
    refine ⟨ad.add (n * d.sz), rfl, by rw [add_block]; exact h1, by rw [add_block]; exact h2, c', hc', fun i u hu => ?_⟩
    rw [add_add, ← Nat.add_assoc, ← Nat.add_mul]
    exact h3 i u hu⟩
/-- 's[n:]' as the walk spells it, its two ways. -/
theorem Row.cut (h : d.Row w ok A xs) {n : Nat} (_hn : n ≤ xs.length) : d.Row w ok (A.map (·.add (n * d.sz))) (xs.drop n) :=
  ⟨Nat.le_trans (by simp) h.1, fun j p hp => by
    rw [List.getElem?_drop] at hp
    obtain ⟨ad, rfl, h1, h2, c', hc', h3⟩ := h.2 _ p hp
    refine ⟨ad.add (n * d.sz), rfl, by rw [add_block]; exact h1, by rw [add_block]; exact h2, c', hc', fun i u hu => ?_⟩
    rw [add_add, ← Nat.add_assoc, ← Nat.add_mul]
    exact h3 i u hu⟩
theorem Row.end_ {B : Option Addr} (_h : d.Row w ok A xs) {n c : Nat} (hc : xs.length ≤ c) (e : c = n) : d.Row w ok B (xs.drop n) := by
  rw [List.drop_eq_nil_of_le (by omega)]
  exact Row.nil
theorem Sl.mono (h : d.Sl w ok v xs) (hk : ∀ k, ok k → k < w.heap.size → ok' k) : d.Sl w ok' v xs := by
  obtain ⟨A, c, rfl, hc, hr⟩ := h
  exact ⟨A, c, rfl, hc, hr.mono hk⟩
theorem Sl.move (h : d.Sl w ok v xs) (hk : ∀ k, ok k → k < w.heap.size → w1.heap[k]? = w.heap[k]?) : d.Sl w1 ok v xs := by
  obtain ⟨A, c, rfl, hc, hr⟩ := h
  exact ⟨A, c, rfl, hc, hr.move hk⟩
theorem Sl.below (h : d.Sl w ok v xs) (hb : Below w.heap.size w w1) : d.Sl w1 ok v xs := h.move fun k _ hk => hb.block k hk
theorem Sl.nil (d : Rp α) (w : World) (ok : Nat → Prop) : d.Sl w ok (.slice none 0 0) [] := ⟨none, 0, rfl, Nat.le_refl _, Row.nil⟩
theorem Sl.one (h : d.Sl w ok v xs) : v.oneCell' = true := by obtain ⟨A, c, rfl, _⟩ := h; rfl

/-! ### kinds -/
def scalar (enc : α → Value) (h1 : ∀ x, (enc x).oneCell' = true) : Rp α where
  sz := 1
  K := fun _ _ x cs => cs = [enc x]
  len := fun h => by rw [h]; rfl
  one := fun h u hu => by rw [h] at hu; rw [List.mem_singleton.1 hu]; exact h1 _
  mono := fun _ h => h
  move := fun _ h => h
def int : Rp Int := scalar (Value.int .i64) (fun _ => rfl)
def bool : Rp Bool := scalar Value.bool (fun _ => rfl)
def str : Rp ByteArray := scalar Value.string (fun _ => rfl)
def slice (d : Rp α) : Rp (List α) where
  sz := 1
  K := fun w ok xs cs => ∃ v, cs = [v] ∧ d.Sl w ok v xs
  len := by rintro _ _ _ _ ⟨v, rfl, _⟩; rfl
  one := by rintro _ _ _ _ ⟨v, rfl, h⟩ u hu; rw [List.mem_singleton.1 hu]; exact h.one
  mono := by rintro _ _ _ _ _ hk ⟨v, rfl, h⟩; exact ⟨v, rfl, h.mono hk⟩
  move := by rintro _ _ _ _ _ hk ⟨v, rfl, h⟩; exact ⟨v, rfl, h.move hk⟩
def pair (a : Rp α) (b : Rp β) : Rp (α × β) where
  sz := a.sz + b.sz
  K := fun w ok x cs => ∃ c0 c1, cs = c0 ++ c1 ∧ a.K w ok x.1 c0 ∧ b.K w ok x.2 c1
  len := by rintro _ _ _ _ ⟨c0, c1, rfl, h0, h1⟩; rw [List.length_append, a.len h0, b.len h1]
  one := by
    rintro _ _ _ _ ⟨c0, c1, rfl, h0, h1⟩ u hu
    rcases List.mem_append.1 hu with hu | hu
    · exact a.one h0 u hu
    · exact b.one h1 u hu
  mono := by rintro _ _ _ _ _ hk ⟨c0, c1, rfl, h0, h1⟩; exact ⟨c0, c1, rfl, a.mono hk h0, b.mono hk h1⟩
  move := by rintro _ _ _ _ _ hk ⟨c0, c1, rfl, h0, h1⟩; exact ⟨c0, c1, rfl, a.move hk h0, b.move hk h1⟩
/-- A Lean structure by its fields. -/
def iso (d : Rp α) (f : β → α) : Rp β where
  sz := d.sz
  K := fun w ok x cs => d.K w ok (f x) cs
  len := d.len
  one := d.one
  mono := d.mono
  move := d.move

theorem int_K {x : Int} {cs : List Value} : int.K w ok x cs ↔ cs = [.int .i64 x] := Iff.rfl
theorem bool_K {x : Bool} {cs : List Value} : bool.K w ok x cs ↔ cs = [.bool x] := Iff.rfl
theorem str_K {x : ByteArray} {cs : List Value} : str.K w ok x cs ↔ cs = [.string x] := Iff.rfl
/-- An element of one cell, as the walk spells its cell. -/
theorem Row.at1 (h : d.Row w ok A xs) (h1 : d.sz = 1) {k : Nat} (hk : k < xs.length) : ∃ ad u, A = some ad ∧ ad.block < w.heap.size ∧ ok ad.block ∧ d.K w ok xs[k] [u] ∧ w.cell? (ad.add k) = some u := by
  obtain ⟨ad, c, e, h2, h3, hK, hc⟩ := h.at_ hk
  have hl := d.len hK
  rw [h1] at hl hc
  match c, hl with
  | [u], _ => exact ⟨ad, u, e, h2, h3, hK, by simpa using hc 0 u rfl⟩
theorem int_at {xs : List Int} (h : int.Row w ok A xs) {k : Nat} (hk : k < xs.length) : ∃ ad, A = some ad ∧ ad.block < w.heap.size ∧ w.cell? (ad.add k) = some (.int .i64 xs[k]) := by
  obtain ⟨ad, u, e, h2, _, hK, hc⟩ := h.at1 rfl hk
  obtain rfl : u = _ := by simpa [int, scalar] using hK
  exact ⟨ad, e, h2, hc⟩
theorem str_at {xs : List ByteArray} (h : str.Row w ok A xs) {k : Nat} (hk : k < xs.length) : ∃ ad, A = some ad ∧ ad.block < w.heap.size ∧ w.cell? (ad.add k) = some (.string xs[k]) := by
  obtain ⟨ad, u, e, h2, _, hK, hc⟩ := h.at1 rfl hk
  obtain rfl : u = _ := by simpa [str, scalar] using hK
  exact ⟨ad, e, h2, hc⟩

/-! ### a row of the call's own -/
def Reps (R : α → List Value → Prop) (size : Nat) (ps : List α) (cs : List Value) : Prop :=
  cs.length = ps.length * size ∧ ∀ j p, ps[j]? = some p → R p ((cs.drop (j * size)).take size)
/-- The row v (elements of type e) is the call's own from block base on; what its elements lead to is ok, and is not the row itself. -/
def Own (d : Rp α) (e : TypeId) (w : World) (base : Nat) (ok : Nat → Prop) (v : Value) (xs : List α) : Prop :=
  ∃ inner, w.ownsRow base e d.sz v xs.length inner ∧ Reps (d.K w (fun k => ok k ∧ some k ≠ v.ownBlock)) d.sz xs inner

variable {e base : Nat}
theorem Own.nil (d : Rp α) (e : TypeId) (w : World) (base : Nat) (ok : Nat → Prop) : d.Own e w base ok (.slice none 0 0) [] := ⟨[], World.ownsRow_nil _ _ _ _, by simp, fun j p h => by simp at h⟩
theorem own_move {size n : Nat} {cs : List Value} (h : w.ownsRow base e size v n cs) (hm : ∀ k, v.ownBlock = some k → w1.heap[k]? = w.heap[k]?) : w1.ownsRow base e size v n cs := by
  obtain ⟨h1, h2⟩ := h
  refine ⟨h1, ?_⟩
  rcases h2 with h2 | ⟨g, cap, cur, rfl, hg, hh, r⟩
  · exact .inl h2
  · exact .inr ⟨g, cap, cur, rfl, hg, (hm g (by simp [Value.ownBlock])).trans hh, r⟩
theorem Own.move (h : d.Own e w base ok v xs) (hv : ∀ k, v.ownBlock = some k → w1.heap[k]? = w.heap[k]?) (hk : ∀ k, ok k → some k ≠ v.ownBlock → k < w.heap.size → w1.heap[k]? = w.heap[k]?) : d.Own e w1 base ok v xs := by
  obtain ⟨inner, ho, hl, hr⟩ := h
  exact ⟨inner, own_move ho hv, hl, fun j p hp => d.move (fun k h1 h2 => hk k h1.1 h1.2 h2) (hr j p hp)⟩
theorem Own.mono (h : d.Own e w base ok v xs) (hk : ∀ k, ok k → k < w.heap.size → ok' k) : d.Own e w base ok' v xs := by
  obtain ⟨inner, ho, hl, hr⟩ := h
  exact ⟨inner, ho, hl, fun j p hp => d.mono (fun k h1 h2 => ⟨hk k h1.1 h2, h1.2⟩) (hr j p hp)⟩
theorem Own.lt (h : d.Own e w base ok v xs) : ∀ k, v.ownBlock = some k → base ≤ k ∧ k < w.heap.size := h.choose_spec.1.lt
theorem Own.below (h : d.Own e w base ok v xs) (hb : Below w.heap.size w w1) : d.Own e w1 base ok v xs :=
  h.move (fun k hk => hb.block k (h.lt k hk).2) fun k _ _ hk => hb.block k hk
/-- Another row has been written: not this one, and none that its elements lead to. -/
theorem Own.grown (h : d.Own e w base ok v xs) {row : Option Nat} (hg : w.grownBy w1 row) (hne : ∀ k, v.ownBlock = some k → some k ≠ row) (hok : ∀ k, ok k → some k ≠ row) : d.Own e w1 base ok v xs :=
  h.move (fun k hk => hg.block k (h.lt k hk).2 (hne k hk)) fun k h1 _ h3 => hg.block k h3 (hok k h1)
theorem Own.sl (h : d.Own e w base ok v xs) : d.Sl w (fun k => ok k ∨ v.ownBlock = some k) v xs := by
  obtain ⟨inner, ho, hl, hr⟩ := h
  rcases Nat.eq_zero_or_pos xs.length with h0 | h0
  · obtain rfl : xs = [] := List.eq_nil_of_length_eq_zero h0
    rcases ho.2 with ⟨rfl, _⟩ | ⟨g, cap, cur, rfl, _⟩
    · exact Sl.nil _ _ _
    · exact ⟨_, cap, rfl, Nat.zero_le _, Row.nil⟩
  · have hm : xs.length ≤ 9223372036854775807 := by
      rcases ho.2 with ⟨_, h1⟩ | ⟨g', cap', cur, he, _, _, h1, h2, _⟩
      · omega
      · simp only [maxLen] at h2
        omega
    rcases ho.2 with ⟨_, h1⟩ | ⟨g, cap, cur, rfl, _, hh, hn, _⟩
    · omega
    · have hlt : g < w.heap.size := (Array.getElem?_eq_some_iff.1 hh).1
      refine ⟨_, cap, rfl, hn, hm, fun j p hp => ⟨_, rfl, .inr (by simp [Value.ownBlock]), hlt, _, d.mono (fun k h1 _ => .inl h1.1) (hr j p hp), fun i u hu => ?_⟩⟩
      refine ho.cells (g := g) rfl _ u ?_
      rw [List.getElem?_take] at hu
      split at hu
      · rw [List.getElem?_drop] at hu
        exact hu
      · cases hu
theorem Reps.snoc {R : α → List Value → Prop} {size : Nat} {ps : List α} {cs c : List Value} {p : α} (h : Reps R size ps cs) (hp : R p c) (hc : c.length = size) : Reps R size (ps ++ [p]) (cs ++ c) := by
  refine ⟨by rw [List.length_append, h.1, hc, List.length_append, List.length_singleton, Nat.add_mul, Nat.one_mul], fun j q hq => ?_⟩
  rcases Nat.lt_or_ge j ps.length with hj | hj
  · rw [List.getElem?_append_left hj] at hq
    have h1 : j * size + size ≤ cs.length := by rw [h.1, ← Nat.succ_mul]; exact Nat.mul_le_mul_right _ hj
    have h2 := h.2 j q hq
    rw [List.drop_append_of_le_length (by omega), List.take_append_of_le_length (by rw [List.length_drop]; omega)]
    exact h2
  · have hj' : j = ps.length := by
      have := (List.getElem?_eq_some_iff.1 hq).1
      rw [List.length_append, List.length_singleton] at this
      omega
    subst hj'
    have hq' : p = q := by simpa using hq
    subst hq'
    rw [← h.1, List.drop_left, ← hc, List.take_length]
    exact hp
theorem Reps.append {R : α → List Value → Prop} {size : Nat} {ps qs : List α} {cs ds : List Value} (h : Reps R size ps cs) (h' : Reps R size qs ds) : Reps R size (ps ++ qs) (cs ++ ds) := by
  refine ⟨by rw [List.length_append, h.1, h'.1, List.length_append, Nat.add_mul], fun j q hq => ?_⟩
  rcases Nat.lt_or_ge j ps.length with hj | hj
  · rw [List.getElem?_append_left hj] at hq
    have h1 : j * size + size ≤ cs.length := by rw [h.1, ← Nat.succ_mul]; exact Nat.mul_le_mul_right _ hj
    have h2 := h.2 j q hq
    rw [List.drop_append_of_le_length (by omega), List.take_append_of_le_length (by rw [List.length_drop]; omega)]
    exact h2
  · rw [List.getElem?_append_right hj] at hq
    have h2 := h'.2 _ q hq
    have e1 : j * size = cs.length + (j - ps.length) * size := by rw [h.1, ← Nat.add_mul]; congr 1; omega
    rw [e1, List.drop_append, List.drop_eq_nil_of_le (by omega), List.nil_append, Nat.add_sub_cancel_left]
    exact h2
/-- The cells of a row that is read, all of them. -/
theorem Row.all {ad : Addr} (h : d.Row w ok (some ad) xs) : ∃ news, Reps (d.K w ok) d.sz xs news ∧ (∀ j u, news[j]? = some u → w.cell? (ad.add j) = some u) ∧ ∀ u ∈ news, u.oneCell' = true := by
  have key : ∀ n, n ≤ xs.length → ∃ news, Reps (d.K w ok) d.sz (xs.take n) news ∧ (∀ j u, news[j]? = some u → w.cell? (ad.add j) = some u) ∧ ∀ u ∈ news, u.oneCell' = true := by
    intro n
    induction n with
    | zero => intro _; exact ⟨[], ⟨by simp, fun j p h => by simp at h⟩, fun j u h => by simp at h, fun u h => by simp at h⟩
    | succ n ih =>
      intro hn
      obtain ⟨news, h1, h2, h3⟩ := ih (by omega)
      obtain ⟨ad', c, e, _, _, hK, hc⟩ := h.at_ (k := n) (by omega)
      cases e
      have hnl : news.length = n * d.sz := by rw [h1.1, List.length_take, Nat.min_eq_left (by omega)]
      refine ⟨news ++ c, ?_, fun j u hu => ?_, fun u hu => ?_⟩
      · rw [List.take_succ_eq_append_getElem (by omega)]
        exact h1.snoc hK (d.len hK)
      · rcases Nat.lt_or_ge j news.length with hj | hj
        · rw [List.getElem?_append_left hj] at hu
          exact h2 j u hu
        · rw [List.getElem?_append_right hj] at hu
          have := hc _ u hu
          rwa [← hnl, Nat.add_sub_cancel' hj] at this
      · rcases List.mem_append.1 hu with hu | hu
        · exact h3 u hu
        · exact d.one hK u hu
  obtain ⟨news, h1, h2, h3⟩ := key xs.length (Nat.le_refl _)
  rw [List.take_length] at h1
  exact ⟨news, h1, h2, h3⟩

/-! ### append, at the operation -/
section
variable {P : Program} {ops : Array Oper} {rest : List Oper} {o : Oper} {a : Act} {Q : Exit → Act → World → Prop}
/-- What an append leaves of the elements: a new row, or the old one. -/
theorem Own.appended {W : World} {v1 : Value} {ys : List α} {inner news : List Value} (hr : Reps (d.K W (fun k => ok k ∧ some k ≠ v.ownBlock)) d.sz xs inner) (hn : Reps (d.K W (fun k => ok k ∧ some k ≠ v.ownBlock)) d.sz ys news)
    (ho : w1.ownsRow base e d.sz v1 (xs.length + ys.length) (inner ++ news)) (hg : W.grownBy w1 v.ownBlock) (hat : v1.ownBlock = v.ownBlock ∨ ∃ b, v1.ownBlock = some b ∧ W.heap.size ≤ b) : d.Own e w1 base ok v1 (xs ++ ys) := by
  refine ⟨inner ++ news, by rw [List.length_append]; exact ho, ?_⟩
  have h := hr.append hn
  refine ⟨h.1, fun j p hp => ?_⟩
  have h1 : d.K W (fun k => (ok k ∧ some k ≠ v1.ownBlock) ∧ some k ≠ v.ownBlock) p _ := d.mono (fun k h1 h2 => ⟨⟨h1.1, ?_⟩, h1.2⟩) (h.2 j p hp)
  · exact d.mono (fun k h1 _ => h1.1) (d.move (fun k h1 h3 => hg.block k h3 h1.2) h1)
  · rcases hat with hat | ⟨b, hat, hb⟩
    · rw [hat]; exact h1.2
    · rw [hat]
      intro he
      injection he with he
      omega
/-- append(v, x); behind 'at_builtin'; the goal's world is 'W.alloc' of the variadic's box. -/
theorem append_one {w0 W : World} (d : Rp α) (base : Nat) (hgd : o.guard = none) (s x : Operand) (t e : TypeId) (z : Value) (bytes : Nat)
    (ho : o.op = .call { callee := .builtin .append, args := #[s, x], argTypes := #[t, t] })
    (ht : P.underlying t = some (.slice e)) (hinfo : (P.info? e).map (fun i => (i.zero, i.size, i.bytes)) = some (some z, d.sz, bytes)) (hz : z.cells.size = d.sz) (hs0 : 0 < d.sz) (hb0 : 0 < bytes)
    (v : Value) (xs : List α) (p : α) (ys : List Value) (ok : Nat → Prop) (hs : a.eval s = v) (hx : a.eval x = .slice (some ⟨W.heap.size, 0, none⟩) 1 1)
    (hp : d.K W (fun k => ok k ∧ some k ≠ v.ownBlock) p ys)
    (HO : d.Own e W base ok v xs) (HB : Below base w0 W) (hbase : base ≤ W.heap.size) (hl : (xs.length + 1) * bytes ≤ 140737488355328)
    (h : ∀ v1 w1, d.Own e w1 base ok v1 (xs ++ [p]) → Below base w0 w1 → W.grownBy w1 v.ownBlock → (v1.ownBlock = v.ownBlock ∨ ∃ b, v1.ownBlock = some b ∧ W.heap.size ≤ b) → wpList P ops Q rest (a.put o.dst v1) w1) :
    wpList P ops Q (o :: rest) a (W.alloc (.cells ys.toArray e)) := by
  obtain ⟨i0, hi, hzz⟩ := Option.map_eq_some_iff.1 hinfo
  simp only [Prod.mk.injEq] at hzz
  obtain ⟨hz0, hz1, hz2⟩ := hzz
  have hlen : xs.length + 1 ≤ 140737488355328 := Nat.le_trans (Nat.le_mul_of_pos_right _ hb0) hl
  have hlt := HO.lt
  obtain ⟨inner, hown, hr⟩ := HO
  have hys := d.len hp
  refine wpList_append_own_at (W.alloc (.cells ys.toArray e)) hgd s x t ho base e i0 z d.sz bytes ht hi hz0 hz1 hz2 hz hs0 v xs.length inner hs (hown.alloc _) ⟨W.heap.size, 0, none⟩ 1 1 ys hx (by rw [hys]; simp)
    (by simpa using World.news_of_block (cs := ys.toArray) (t := e) (fr := (0, 0)) (heap_alloc_new W (.cells ys.toArray e))) (d.one hp) (by simp only [maxLen]; omega) hl (by simp; omega) ?_
  intro v1 w1 hown1 hg _ hat
  have hg1 : W.grownBy w1 v.ownBlock := World.grownBy.trans (World.grownBy_alloc W _ _) hg
  have hat1 : v1.ownBlock = v.ownBlock ∨ ∃ b, v1.ownBlock = some b ∧ W.heap.size ≤ b := by
    rcases hat with hat | hat
    · exact .inl hat
    · exact .inr ⟨_, hat, by simp⟩
  refine h v1 w1 (Own.appended (ys := [p]) hr ⟨by simp [hys], fun j q hq => ?_⟩ hown1 hg1 hat1) ((HB.alloc hbase _).grown hg (by simp; omega) (fun k hk => (hlt k hk).1)) hg1 hat1
  match j, hq with
  | 0, hq =>
    obtain rfl : p = q := by simpa using hq
    rw [Nat.zero_mul, List.drop_zero, ← hys, List.take_length]
    exact hp
/-- append(v, ys...), ys a slice that is read. -/
theorem append_row {w0 W : World} (d : Rp α) (base : Nat) (hgd : o.guard = none) (s x : Operand) (t e : TypeId) (z : Value) (bytes : Nat)
    (ho : o.op = .call { callee := .builtin .append, args := #[s, x], argTypes := #[t, t] })
    (ht : P.underlying t = some (.slice e)) (hinfo : (P.info? e).map (fun i => (i.zero, i.size, i.bytes)) = some (some z, d.sz, bytes)) (hz : z.cells.size = d.sz) (hs0 : 0 < d.sz) (hb0 : 0 < bytes)
    (v : Value) (xs ys : List α) (A : Option Addr) (c : Nat) (ok : Nat → Prop) (hs : a.eval s = v) (hx : a.eval x = .slice A ys.length c)
    {ok1 : Nat → Prop} (hp : d.Row W ok1 A ys) (hK : ∀ p cs, d.K W ok1 p cs → d.K W (fun k => ok k ∧ some k ≠ v.ownBlock) p cs)
    (HO : d.Own e W base ok v xs) (HB : Below base w0 W) (hbase : base ≤ W.heap.size) (hl : (xs.length + ys.length) * bytes ≤ 140737488355328)
    (h : ∀ v1 w1, d.Own e w1 base ok v1 (xs ++ ys) → Below base w0 w1 → W.grownBy w1 v.ownBlock → (v1.ownBlock = v.ownBlock ∨ ∃ b, v1.ownBlock = some b ∧ W.heap.size ≤ b) → wpList P ops Q rest (a.put o.dst v1) w1) :
    wpList P ops Q (o :: rest) a W := by
  obtain ⟨i0, hi, hzz⟩ := Option.map_eq_some_iff.1 hinfo
  simp only [Prod.mk.injEq] at hzz
  obtain ⟨hz0, hz1, hz2⟩ := hzz
  have hlen : xs.length + ys.length ≤ 140737488355328 := Nat.le_trans (Nat.le_mul_of_pos_right _ hb0) hl
  have hlt := HO.lt
  cases A with
  | none =>
    have h0 : ys = [] := by
      cases ys with
      | nil => rfl
      | cons y ys =>
        obtain ⟨_, e, _⟩ := hp.2 0 y rfl
        cases e
    subst h0
    obtain ⟨inner, hown, hr⟩ := HO
    have hrun : (Builtin.append_ #[t, t] o.type #[v, .slice none 0 c]).run P W = .ok v W := by
      rcases hown.2 with ⟨rfl, h0⟩ | ⟨g, cap, cur, rfl, _, _, hnc, _⟩
      · simp [Builtin.append_, run_underlying ht, sizeOf, typeInfo, hi, Builtin.lenOf, Builtin.firstCells]
      · simp [Builtin.append_, run_underlying ht, sizeOf, typeInfo, hi, Builtin.lenOf, Builtin.firstCells, hnc, storeCells]
    refine wpList_plain hgd fun K hK => ?_
    unfold Oper.wp execOp
    simp only [ho, resolve, invoke, builtin, Sem.run_bind, Sem.run_pure, Result.andThen_ok, List.map_toArray, List.map_cons, List.map_nil, hs, hx, List.length_nil, hrun]
    exact hK _ _ (h v W (by rw [List.append_nil]; exact ⟨inner, hown, hr⟩) HB (World.grownBy.refl W _) (.inl rfl))
  | some ad =>
    obtain ⟨inner, hown, hr⟩ := HO
    obtain ⟨news, hn, hc, h1⟩ := hp.all
    refine wpList_append_own_at W hgd s x t ho base e i0 z d.sz bytes ht hi hz0 hz1 hz2 hz hs0 v xs.length inner hs hown ad ys.length c news hx hn.1 hc h1 (by simp only [maxLen]; omega) hl hbase ?_
    intro v1 w1 hown1 hg _ hat
    have hat1 : v1.ownBlock = v.ownBlock ∨ ∃ b, v1.ownBlock = some b ∧ W.heap.size ≤ b := by
      rcases hat with hat | hat
      · exact .inl hat
      · exact .inr ⟨_, hat, Nat.le_refl _⟩
    exact h v1 w1 (Own.appended hr ⟨hn.1, fun j p hp => hK _ _ (hn.2 j p hp)⟩ hown1 hg hat1) (HB.grown hg hbase (fun k hk => (hlt k hk).1)) hg hat1
end
/-- An empty literal, '[]T{}'. -/
theorem Own.empty (d : Rp α) (e : TypeId) (W : World) (base : Nat) (ok : Nat → Prop) (hb : base ≤ W.heap.size) : d.Own e (W.alloc (.cells #[] e)) base ok (.slice (some ⟨W.heap.size, 0, none⟩) 0 0) [] :=
  ⟨[], World.ownsRow_made W #[] 0 hb (by simp) (by simp), by simp, fun j p h => by simp at h⟩
/-- A literal, '[]T{..}': inner its cells. -/
theorem Own.lit (d : Rp α) (e : TypeId) (W : World) (base : Nat) (ok : Nat → Prop) (hb : base ≤ W.heap.size) {xs : List α} {inner : List Value} (hrep : Reps (d.K W ok) d.sz xs inner) (hm : xs.length ≤ 9223372036854775807) :
    d.Own e (W.alloc (.cells inner.toArray e)) base ok (.slice (some ⟨W.heap.size, 0, none⟩) xs.length xs.length) xs := by
  refine ⟨inner, by simpa using World.ownsRow_lit (base := base) (e := e) (size := d.sz) W inner.toArray xs.length hb (by simpa [maxLen] using hm) (by simpa using hrep.1), hrep.1, fun j p hp => ?_⟩
  have h1 : d.K W (fun k => (ok k ∧ some k ≠ (Value.slice (some ⟨W.heap.size, 0, none⟩) xs.length xs.length).ownBlock)) p _ := d.mono (fun k h1 h2 => ⟨h1, by simp [Value.ownBlock]; omega⟩) (hrep.2 j p hp)
  exact d.move (fun k _ h2 => Below.heap_alloc W _ k h2) h1
theorem reps_str (w : World) (ok : Nat → Prop) (xs : List ByteArray) : Reps (str.K w ok) 1 xs (xs.map Value.string) := by
  refine ⟨by simp, fun j p hp => ?_⟩
  have hj := (List.getElem?_eq_some_iff.1 hp)
  obtain ⟨hj, rfl⟩ := hj
  rw [str_K, Nat.mul_one, List.drop_eq_getElem_cons (by simpa using hj)]
  simp
theorem reps_int (w : World) (ok : Nat → Prop) (xs : List Int) : Reps (int.K w ok) 1 xs (xs.map (Value.int .i64)) := by
  refine ⟨by simp, fun j p hp => ?_⟩
  have hj := (List.getElem?_eq_some_iff.1 hp)
  obtain ⟨hj, rfl⟩ := hj
  rw [int_K, Nat.mul_one, List.drop_eq_getElem_cons (by simpa using hj)]
  simp
/-- A row of the call's own is read where it begins. -/
theorem Own.row {A : Option Addr} {n c : Nat} (h : d.Own e w base ok (.slice A n c) xs) : n = xs.length ∧ xs.length ≤ c ∧ d.Row w (fun k => ok k ∨ (Value.slice A n c).ownBlock = some k) A xs := by
  obtain ⟨A', c', e, hc, hr⟩ := h.sl
  injection e with e1 e2 e3
  subst e1 e2 e3
  exact ⟨rfl, hc, hr⟩
end Rp
end Go.Proofs.WK
