/-
  A struct variable: a block known whole. No program.
-/
import Derived.Test.YtljjiicjnoljbaaDoorWk
namespace Go.Proofs.WK
open Go.RowKit
/-- Block n is a variable that holds cs. -/
def Bk (w : World) (n : Nat) (cs : List Value) : Prop := ∃ t, w.heap[n]? = some (.cells cs.toArray t (0, 0))
theorem Bk.lt {w : World} {n : Nat} {cs : List Value} (h : Bk w n cs) : n < w.heap.size := by
  obtain ⟨t, h⟩ := h
  exact (Array.getElem?_eq_some_iff.1 h).1
theorem Bk.below {w w' : World} {n : Nat} {cs : List Value} (h : Bk w n cs) (hb : Below w.heap.size w w') : Bk w' n cs := by
  obtain ⟨t, h1⟩ := h
  exact ⟨t, (hb.block n (Array.getElem?_eq_some_iff.1 h1).1).trans h1⟩
theorem Bk.belowN {w w' : World} {n N : Nat} {cs : List Value} (h : Bk w n cs) (hb : Below N w w') (hn : n < N) : Bk w' n cs := by
  obtain ⟨t, h1⟩ := h
  exact ⟨t, (hb.block n hn).trans h1⟩
theorem Bk.made (w : World) (cs : List Value) (t : TypeId) : Bk (w.alloc (.cells cs.toArray t)) w.heap.size cs := ⟨t, by show (w.heap.push _)[w.heap.size]? = _; simp⟩
theorem Bk.alloc {w : World} {n : Nat} {cs : List Value} (h : Bk w n cs) (o : Obj) : Bk (w.alloc o) n cs := h.below ((Below.refl _ _).alloc (Nat.le_refl _) o)
theorem Bk.drewN {w : World} {n : Nat} {cs : List Value} (h : Bk w n cs) (k : Nat) : Bk (w.drewN k) n cs := h.below (below_drewN (Below.refl _ _) k)
theorem Bk.drew {w : World} {n : Nat} {cs : List Value} (h : Bk w n cs) : Bk w.drew n cs := h
theorem Bk.other {w : World} {n m o : Nat} {cs : List Value} (h : Bk w n cs) (hm : n ≠ m) (u : Value) : Bk (w.setCell ⟨m, o, none⟩ u) n cs := by
  obtain ⟨t, h1⟩ := h
  exact ⟨t, (Below.heap_setCell _ _ _ n hm).trans h1⟩
theorem Bk.set {w : World} {n : Nat} {cs : List Value} (h : Bk w n cs) (o : Nat) (u : Value) : Bk (w.setCell ⟨n, o, none⟩ u) n (cs.set o u) := by
  obtain ⟨t, h1⟩ := h
  refine ⟨t, ?_⟩
  obtain ⟨hlt, hk⟩ := Array.getElem?_eq_some_iff.1 h1
  show (w.heap.modify n _)[n]? = _
  rw [Array.getElem?_eq_getElem (by rw [Array.size_modify]; exact hlt), Array.getElem_modify_self, hk]
  simp
theorem Bk.cell {w : World} {n : Nat} {cs : List Value} (h : Bk w n cs) (o : Nat) : w.cell? ⟨n, o, none⟩ = cs[o]? := by
  obtain ⟨t, h⟩ := h
  simp [World.cell?, h]
theorem Bk.frozen {w : World} {n : Nat} {cs : List Value} (h : Bk w n cs) (o : Nat) : w.frozen? ⟨n, o, none⟩ = false := by
  obtain ⟨t, h⟩ := h
  simp [World.frozen?, h]
theorem Bk.two {w : World} {n : Nat} {x y : Value} (h : Bk w n [x, y]) : n < w.heap.size ∧ w.cell? ⟨n, 0, none⟩ = some x ∧ w.cell? ⟨n, 1, none⟩ = some y ∧ w.frozen? ⟨n, 0, none⟩ = false ∧ w.frozen? ⟨n, 1, none⟩ = false :=
  ⟨h.lt, h.cell 0, h.cell 1, h.frozen 0, h.frozen 1⟩
theorem Bk.three {w : World} {n : Nat} {x y z : Value} (h : Bk w n [x, y, z]) : n < w.heap.size ∧ w.cell? ⟨n, 0, none⟩ = some x ∧ w.cell? ⟨n, 1, none⟩ = some y ∧ w.cell? ⟨n, 2, none⟩ = some z ∧ (∀ o, w.frozen? ⟨n, o, none⟩ = false) :=
  ⟨h.lt, h.cell 0, h.cell 1, h.cell 2, h.frozen⟩
theorem Bk.six {w : World} {n : Nat} {x y z a b c : Value} (h : Bk w n [x, y, z, a, b, c]) : n < w.heap.size ∧ w.cell? ⟨n, 0, none⟩ = some x ∧ w.cell? ⟨n, 1, none⟩ = some y ∧ w.cell? ⟨n, 2, none⟩ = some z ∧ w.cell? ⟨n, 3, none⟩ = some a ∧ w.cell? ⟨n, 4, none⟩ = some b ∧ w.cell? ⟨n, 5, none⟩ = some c ∧ (∀ o, w.frozen? ⟨n, o, none⟩ = false) :=
  ⟨h.lt, h.cell 0, h.cell 1, h.cell 2, h.cell 3, h.cell 4, h.cell 5, h.frozen⟩
end Go.Proofs.WK
