/-
  append(v, x) onto a row of the call's own, in whatever world: at a plain list, and at a step of a region that draws. No program.
-/
import Derived.Test.YtljjiicjnoljbaaDoorWk
import Derived.Test.YtljjiicjnoljbaaDoorBox
namespace Go.Proofs.WK
open Go.RowKit Rp
namespace Rp
section
variable {α : Type} {P : Program} {ops : Array Oper} {rest : List Oper} {o : Oper} {a : Act} {Q : Exit → Act → World → Prop} {ok : Nat → Prop} {v : Value} {xs : List α}
/-- The operation, in world W, where block B is the element just laid. -/
theorem wp_one {w0 W : World} {K : Act → World → Prop} (d : Rp α) (base : Nat) (s x : Operand) (t e : TypeId) (z : Value) (bytes : Nat)
    (ho : o.op = .call { callee := .builtin .append, args := #[s, x], argTypes := #[t, t] })
    (ht : P.underlying t = some (.slice e)) (hinfo : (P.info? e).map (fun i => (i.zero, i.size, i.bytes)) = some (some z, d.sz, bytes)) (hz : z.cells.size = d.sz) (hs0 : 0 < d.sz) (hb0 : 0 < bytes)
    (v : Value) (xs : List α) (p : α) (ys : List Value) (ok : Nat → Prop) (B c : Nat) (hs : a.eval s = v) (hx : a.eval x = .slice (some ⟨B, 0, none⟩) 1 c)
    (hB : ∃ t fr, W.heap[B]? = some (.cells ys.toArray t fr)) (hp : d.K W (fun k => ok k ∧ some k ≠ v.ownBlock) p ys)
    (HO : d.Own e W base ok v xs) (HB : Below base w0 W) (hbase : base ≤ W.heap.size) (hl : (xs.length + 1) * bytes ≤ 140737488355328)
    (h : ∀ v1 w1, d.Own e w1 base ok v1 (xs ++ [p]) → Below base w0 w1 → W.grownBy w1 v.ownBlock → (v1.ownBlock = v.ownBlock ∨ ∃ b, v1.ownBlock = some b ∧ W.heap.size ≤ b) → K (a.put o.dst v1) w1) : o.wp P a W K Q := by
  obtain ⟨i0, hi, hzz⟩ := Option.map_eq_some_iff.1 hinfo
  simp only [Prod.mk.injEq] at hzz
  obtain ⟨hz0, hz1, hz2⟩ := hzz
  have hlen : xs.length + 1 ≤ 140737488355328 := Nat.le_trans (Nat.le_mul_of_pos_right _ hb0) hl
  have hlt := HO.lt
  obtain ⟨inner, hown, hr⟩ := HO
  have hys := d.len hp
  obtain ⟨tB, fr, hB⟩ := hB
  obtain ⟨v1, w1, hrun, hown1, hg, _, hat⟩ := run_append_own_at (P := P) W base t o.type e i0 z d.sz bytes ht hi hz0 hz1 hz2 hz hs0 v xs.length inner hown ⟨B, 0, none⟩ 1 c ys (by rw [hys]; simp)
    (fun j u hu => World.news_of_block hB j u (by simpa using hu)) (d.one hp) (by simp only [maxLen]; omega) hl hbase
  have hat1 : v1.ownBlock = v.ownBlock ∨ ∃ b, v1.ownBlock = some b ∧ W.heap.size ≤ b := by
    rcases hat with hat | hat
    · exact .inl hat
    · exact .inr ⟨_, hat, Nat.le_refl _⟩
  unfold Oper.wp execOp
  simp only [ho, resolve, invoke, builtin, Sem.run_bind, Sem.run_pure, Result.andThen_ok, List.map_toArray, List.map_cons, List.map_nil, hs, hx, hrun]
  refine h v1 w1 (Own.appended (ys := [p]) hr ⟨by simp [hys], fun j q hq => ?_⟩ hown1 hg hat1) (HB.grown hg hbase (fun k hk => (hlt k hk).1)) hg hat1
  match j, hq with
  | 0, hq =>
    obtain rfl : p = q := by simpa using hq
    rw [Nat.zero_mul, List.drop_zero, ← hys, List.take_length]
    exact hp
theorem list_one {w0 W : World} (d : Rp α) (base : Nat) (hgd : o.guard = none) (s x : Operand) (t e : TypeId) (z : Value) (bytes : Nat)
    (ho : o.op = .call { callee := .builtin .append, args := #[s, x], argTypes := #[t, t] })
    (ht : P.underlying t = some (.slice e)) (hinfo : (P.info? e).map (fun i => (i.zero, i.size, i.bytes)) = some (some z, d.sz, bytes)) (hz : z.cells.size = d.sz) (hs0 : 0 < d.sz) (hb0 : 0 < bytes)
    (v : Value) (xs : List α) (p : α) (ys : List Value) (ok : Nat → Prop) (B c : Nat) (hs : a.eval s = v) (hx : a.eval x = .slice (some ⟨B, 0, none⟩) 1 c)
    (hB : ∃ t fr, W.heap[B]? = some (.cells ys.toArray t fr)) (hp : d.K W (fun k => ok k ∧ some k ≠ v.ownBlock) p ys)
    (HO : d.Own e W base ok v xs) (HB : Below base w0 W) (hbase : base ≤ W.heap.size) (hl : (xs.length + 1) * bytes ≤ 140737488355328)
    (h : ∀ v1 w1, d.Own e w1 base ok v1 (xs ++ [p]) → Below base w0 w1 → W.grownBy w1 v.ownBlock → (v1.ownBlock = v.ownBlock ∨ ∃ b, v1.ownBlock = some b ∧ W.heap.size ≤ b) → wpList P ops Q rest (a.put o.dst v1) w1) : wpList P ops Q (o :: rest) a W :=
  wpList_plain hgd fun _ hK => wp_one d base s x t e z bytes ho ht hinfo hz hs0 hb0 v xs p ys ok B c hs hx hB hp HO HB hbase hl fun v1 w1 h1 h2 h3 h4 => hK _ _ (h v1 w1 h1 h2 h3 h4)
theorem step_one {w0 W : World} {K : Act → World → Prop} {E : Prop} (d : Rp α) (base : Nat) (hgd : o.guard = none) (s x : Operand) (t e : TypeId) (z : Value) (bytes : Nat)
    (ho : o.op = .call { callee := .builtin .append, args := #[s, x], argTypes := #[t, t] })
    (ht : P.underlying t = some (.slice e)) (hinfo : (P.info? e).map (fun i => (i.zero, i.size, i.bytes)) = some (some z, d.sz, bytes)) (hz : z.cells.size = d.sz) (hs0 : 0 < d.sz) (hb0 : 0 < bytes)
    (v : Value) (xs : List α) (p : α) (ys : List Value) (ok : Nat → Prop) (B c : Nat) (hs : a.eval s = v) (hx : a.eval x = .slice (some ⟨B, 0, none⟩) 1 c)
    (hB : ∃ t fr, W.heap[B]? = some (.cells ys.toArray t fr)) (hp : d.K W (fun k => ok k ∧ some k ≠ v.ownBlock) p ys)
    (HO : d.Own e W base ok v xs) (HB : Below base w0 W) (hbase : base ≤ W.heap.size) (hl : (xs.length + 1) * bytes ≤ 140737488355328)
    (h : ∀ v1 w1, d.Own e w1 base ok v1 (xs ++ [p]) → Below base w0 w1 → W.grownBy w1 v.ownBlock → (v1.ownBlock = v.ownBlock ∨ ∃ b, v1.ownBlock = some b ∧ W.heap.size ≤ b) → K (a.put o.dst v1) w1) :
    if Region.wanted o (yielded ops a.tmps) = true then Oper.wp P o a W K Q else E := by
  have hw : Region.wanted o (yielded ops a.tmps) = true := by simp [Region.wanted, hgd]
  rw [if_pos hw]
  exact wp_one d base s x t e z bytes ho ht hinfo hz hs0 hb0 v xs p ys ok B c hs hx hB hp HO HB hbase hl h
end
theorem blk_new (w : World) (cs : List Value) (t : TypeId) : ∃ t' fr, (w.alloc (.cells cs.toArray t)).heap[w.heap.size]? = some (.cells cs.toArray t' fr) := ⟨t, _, heap_alloc_new w _⟩
theorem blk_new2 (w : World) (o : Obj) (cs : List Value) (t : TypeId) : ∃ t' fr, ((w.alloc o).alloc (.cells cs.toArray t)).heap[w.heap.size + 1]? = some (.cells cs.toArray t' fr) := by
  have h := blk_new (w.alloc o) cs t
  rwa [show (w.alloc o).heap.size = w.heap.size + 1 by simp] at h
end Rp
end Go.Proofs.WK
