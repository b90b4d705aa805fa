/-
  What has changed: nothing but blocks of a set. No program.
-/
import Derived.Test.YtljjiicjnoljbaaGreatDoorWk0
namespace Go.Proofs.WK
open Go.RowKit Rp
/-- Nothing but blocks of S has changed of what was there. -/
structure Chg (S : Nat → Prop) (w w' : World) : Prop where
  os : w'.os = w.os
  tape : w'.tape = w.tape
  output : w'.output = w.output
  size : w.heap.size ≤ w'.heap.size
  block : ∀ k, k < w.heap.size → ¬ S k → w'.heap[k]? = w.heap[k]?
theorem Chg.refl (S : Nat → Prop) (w : World) : Chg S w w := ⟨rfl, rfl, rfl, Nat.le_refl _, fun _ _ _ => rfl⟩
theorem Chg.of_below {S : Nat → Prop} {w w' : World} (h : Below w.heap.size w w') : Chg S w w' := ⟨h.os, h.tape, h.output, h.size, fun k hk _ => h.block k hk⟩
theorem Chg.of_grown {S : Nat → Prop} {w w' : World} {r : Option Nat} (h : w.grownBy w' r) (hr : ∀ k, r = some k → S k) : Chg S w w' :=
  ⟨h.os, h.tape, h.output, h.size, fun k hk hs => h.block k hk fun e => hs (hr k e.symm)⟩
theorem Chg.trans {S S' : Nat → Prop} {w w1 w2 : World} (h : Chg S w w1) (h' : Chg S' w1 w2) (hs : ∀ k, k < w.heap.size → S' k → S k) : Chg S w w2 :=
  ⟨h'.os.trans h.os, h'.tape.trans h.tape, h'.output.trans h.output, Nat.le_trans h.size h'.size, fun k hk hn => (h'.block k (Nat.lt_of_lt_of_le hk h.size) fun e => hn (hs k hk e)).trans (h.block k hk hn)⟩
theorem Chg.below {S : Nat → Prop} {w w' : World} {B : Nat} (h : Chg S w w') (hs : ∀ k, S k → B ≤ k) (hB : B ≤ w.heap.size) : Below B w w' :=
  ⟨h.os, h.tape, h.output, h.size, fun k hk => h.block k (by omega) fun e => by have := hs k e; omega⟩
theorem chg_set (S : Nat → Prop) (w : World) (n o : Nat) (u : Value) (h : S n) : Chg S w (w.setCell ⟨n, o, none⟩ u) := by
  refine ⟨rfl, rfl, rfl, ?_, fun k _ hk => Below.heap_setCell _ _ _ k (fun e => hk (by have e2 : k = n := e; rw [e2]; exact h))⟩
  show w.heap.size ≤ (w.heap.modify n _).size
  simp
theorem Chg.mono {S S' : Nat → Prop} {w w' : World} (h : Chg S w w') (hs : ∀ k, S k → S' k) : Chg S' w w' := ⟨h.os, h.tape, h.output, h.size, fun k hk hn => h.block k hk fun e => hn (hs k e)⟩
theorem Chg.step {S : Nat → Prop} {w w1 w2 : World} (h : Chg S w w1) (hb : Below w1.heap.size w1 w2) : Chg S w w2 := h.trans (S' := S) (Chg.of_below hb) fun _ _ h => h
theorem Chg.new {S : Nat → Prop} {w w1 : World} (h : Chg S w w1) {n : Nat} (hn : w.heap.size ≤ n) (o : Nat) (v : Value) : Chg S w (w1.setCell ⟨n, o, none⟩ v) :=
  h.trans (S' := fun k => k = n) (chg_set _ w1 n o v rfl) fun k hk e => by omega
end Go.Proofs.WK
