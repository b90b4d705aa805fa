/-
  append(v, ys...) onto a row of the call's own, at a step of a region that draws; such a region, and what waits for what in it. No program.
-/
import Derived.Test.YtljjiicjnoljbaaGreatDoorWk0
namespace Go.Proofs.WK
open Go.RowKit Rp
namespace Rp
section
variable {α : Type} {P : Program} {ops : Array Oper} {o : Oper} {a : Act} {Q : Exit → Act → World → Prop}
theorem wp_row {w0 W : World} {K : Act → World → Prop} (d : Rp α) (base : Nat) (s x : Operand) (t e : TypeId) (z : Value) (bytes : Nat)
    (ho : o.op = .call { callee := .builtin .append, args := #[s, x], argTypes := #[t, t] })
    (ht : P.underlying t = some (.slice e)) (hinfo : (P.info? e).map (fun i => (i.zero, i.size, i.bytes)) = some (some z, d.sz, bytes)) (hz : z.cells.size = d.sz) (hs0 : 0 < d.sz) (hb0 : 0 < bytes)
    (v : Value) (xs ys : List α) (ad : Addr) (c : Nat) (ok ok1 : Nat → Prop) (nl : Nat) (hnl : ys.length = nl) (hs : a.eval s = v) (hx : a.eval x = .slice (some ad) nl c)
    (hp : d.Row W ok1 (some ad) ys) (hK : ∀ p cs, d.K W ok1 p cs → d.K W (fun k => ok k ∧ some k ≠ v.ownBlock) p cs)
    (HO : d.Own e W base ok v xs) (HB : Below base w0 W) (hbase : base ≤ W.heap.size) (hl : (xs.length + ys.length) * bytes ≤ 140737488355328)
    (h : ∀ v1 w1, d.Own e w1 base ok v1 (xs ++ ys) → Below base w0 w1 → W.grownBy w1 v.ownBlock → (v1.ownBlock = v.ownBlock ∨ ∃ b, v1.ownBlock = some b ∧ W.heap.size ≤ b) → K (a.put o.dst v1) w1) : o.wp P a W K Q := by
  subst hnl
  obtain ⟨i0, hi, hzz⟩ := Option.map_eq_some_iff.1 hinfo
  simp only [Prod.mk.injEq] at hzz
  obtain ⟨hz0, hz1, hz2⟩ := hzz
  have hlen : xs.length + ys.length ≤ 140737488355328 := Nat.le_trans (Nat.le_mul_of_pos_right _ hb0) hl
  have hlt := HO.lt
  obtain ⟨inner, hown, hr⟩ := HO
  obtain ⟨news, hn, hc, h1⟩ := hp.all
  obtain ⟨v1, w1, hrun, hown1, hg, _, hat⟩ := run_append_own_at (P := P) W base t o.type e i0 z d.sz bytes ht hi hz0 hz1 hz2 hz hs0 v xs.length inner hown ad ys.length c news hn.1 hc h1 (by simp only [maxLen]; omega) hl hbase
  have hat1 : v1.ownBlock = v.ownBlock ∨ ∃ b, v1.ownBlock = some b ∧ W.heap.size ≤ b := by
    rcases hat with hat | hat
    · exact .inl hat
    · exact .inr ⟨_, hat, Nat.le_refl _⟩
  unfold Oper.wp execOp
  simp only [ho, resolve, invoke, builtin, Sem.run_bind, Sem.run_pure, Result.andThen_ok, List.map_toArray, List.map_cons, List.map_nil, hs, hx, hrun]
  exact h v1 w1 (Own.appended hr ⟨hn.1, fun j p hp => hK _ _ (hn.2 j p hp)⟩ hown1 hg hat1) (HB.grown hg hbase (fun k hk => (hlt k hk).1)) hg hat1
theorem step_row {w0 W : World} {K : Act → World → Prop} {E : Prop} (d : Rp α) (base : Nat) (hgd : o.guard = none) (s x : Operand) (t e : TypeId) (z : Value) (bytes : Nat)
    (ho : o.op = .call { callee := .builtin .append, args := #[s, x], argTypes := #[t, t] })
    (ht : P.underlying t = some (.slice e)) (hinfo : (P.info? e).map (fun i => (i.zero, i.size, i.bytes)) = some (some z, d.sz, bytes)) (hz : z.cells.size = d.sz) (hs0 : 0 < d.sz) (hb0 : 0 < bytes)
    (v : Value) (xs ys : List α) (ad : Addr) (c : Nat) (ok ok1 : Nat → Prop) (nl : Nat) (hnl : ys.length = nl) (hs : a.eval s = v) (hx : a.eval x = .slice (some ad) nl c)
    (hp : d.Row W ok1 (some ad) ys) (hK : ∀ p cs, d.K W ok1 p cs → d.K W (fun k => ok k ∧ some k ≠ v.ownBlock) p cs)
    (HO : d.Own e W base ok v xs) (HB : Below base w0 W) (hbase : base ≤ W.heap.size) (hl : (xs.length + ys.length) * bytes ≤ 140737488355328)
    (h : ∀ v1 w1, d.Own e w1 base ok v1 (xs ++ ys) → Below base w0 w1 → W.grownBy w1 v.ownBlock → (v1.ownBlock = v.ownBlock ∨ ∃ b, v1.ownBlock = some b ∧ W.heap.size ≤ b) → K (a.put o.dst v1) w1) :
    if Region.wanted o (yielded ops a.tmps) = true then Oper.wp P o a W K Q else E := by
  have hw : Region.wanted o (yielded ops a.tmps) = true := by simp [Region.wanted, hgd]
  rw [if_pos hw]
  exact wp_row d base s x t e z bytes ho ht hinfo hz hs0 hb0 v xs ys ad c ok ok1 nl hnl hs hx hp hK HO HB hbase hl h
end
end Rp
/-- What operation i waits for, at last. -/
def preL (ops : Array Oper) : Nat → Nat → List Nat
  | 0, _ => []
  | f + 1, i => match ops[i]? with
    | none => []
    | some o => o.after.toList.flatMap fun e => if Region.binds .any e = true then e.on :: preL ops f e.on else []
/-- Whatever has come up, all that it waits for has. -/
def Down (ops : Array Oper) (L : Array Bool) : Prop := ∀ (i : Nat) (o : Oper), ops[i]? = some o → L[i]? = some true → ∀ e ∈ o.after, Region.binds .any e = true → L[e.on]? = some true
theorem Down.now {ops : Array Oper} {L : Array Bool} (h : Down ops L) : ∀ (f i : Nat) (o : Oper), ops[i]? = some o → (∀ e ∈ o.after, Region.binds .any e = true → L[e.on]? = some true) → ∀ j ∈ preL ops f i, L[j]? = some true
  | 0, _, _, _, _, j, hj => by simp [preL] at hj
  | f + 1, i, o, ho, ha, j, hj => by
    unfold preL at hj
    rw [ho] at hj
    simp only [List.mem_flatMap] at hj
    obtain ⟨e, he, hj⟩ := hj
    split at hj
    · rename_i hb
      have h1 := ha e (Array.mem_toList_iff.1 he) hb
      rcases List.mem_cons.1 hj with rfl | hj
      · exact h1
      · cases ho2 : ops[e.on]? with
        | none =>
          cases f with
          | zero => simp [preL] at hj
          | succ f => unfold preL at hj; rw [ho2] at hj; simp at hj
        | some o2 => exact h.now f e.on o2 ho2 (h e.on o2 ho2 h1) j hj
    · cases hj
theorem Down.all {ops : Array Oper} {L : Array Bool} (h : Down ops L) {i n : Nat} {o : Oper} (ho : ops[i]? = some o) (ha : ∀ e ∈ o.after, Region.binds .any e = true → L[e.on]? = some true) (hn : ((List.range n).all fun j => (preL ops 12 i).contains j) = true) : ∀ j, j < n → L[j]? = some true := by
  intro j hj
  have h1 := List.all_eq_true.1 hn j (List.mem_range.2 hj)
  exact h.now 12 i o ho ha j (by simpa using h1)
theorem Down.no {ops : Array Oper} {L : Array Bool} (h : Down ops L) {i k : Nat} (hi : L[i]? = some false) (hc : (preL ops 12 k).contains i = true) : L[k]? ≠ some true := by
  intro hk
  cases ho : ops[k]? with
  | none => unfold preL at hc; rw [ho] at hc; simp at hc
  | some o =>
    have h1 := h.now 12 k o ho (h k o ho hk) i (by simpa using hc)
    rw [hi] at h1
    cases h1
section
variable {P : Program} {ops : Array Oper} {Q : Exit → Act → World → Prop} {id : Nat}
/-- region_facts, and all that has come up waits for nothing more. -/
theorem region_facts_down {a : Act} {w : World} (J : Array Bool → Act → World → Prop) (hm : P.follows .mixedOrders = true) (hd : backB ops = true) (h0 : J (Array.replicate ops.size false) a w.drew)
    (hstep : ∀ (i : Nat) (o : Oper) (L : Array Bool) (a : Act) (w : World), ops[i]? = some o → L.size = ops.size → L[i]? = some false → (∀ e ∈ o.after, Region.binds .any e = true → L[e.on]? = some true) → Down ops L → J L a w →
      ∀ K' : Act → World → Prop, (∀ a w, J (L.setIfInBounds i true) a w → K' a w) → if Region.wanted o (yielded ops a.tmps) = true then Oper.wp P o a w K' Q else K' (a.put o.dst undef) w)
    (hend : ∀ (L : Array Bool) a w, (∀ i, i < ops.size → L[i]? = some true) → J L a w → Q .normal a w) : (Code.region id ops true).wp P Q a w := by
  refine region_facts (fun L a w => Down ops L ∧ J L a w) hm hd ⟨?_, h0⟩ ?_ (fun L a w hall hJ => hend L a w hall hJ.2)
  · intro i o _ hi
    rw [Array.getElem?_replicate] at hi
    split at hi <;> simp at hi
  · intro i o L a w ho hs hL haft hJ K' hK
    refine hstep i o L a w ho hs hL haft hJ.1 hJ.2 K' fun a w h => hK a w ⟨?_, h⟩
    intro k o2 ho2 hk e he hb
    have key : L[e.on]? = some true := by
      by_cases hik : i = k
      · subst hik
        rw [ho] at ho2
        injection ho2 with ho2
        subst ho2
        exact haft e he hb
      · rw [Array.getElem?_setIfInBounds_ne hik] at hk
        exact hJ.1 k o2 ho2 hk e he hb
    by_cases hie : i = e.on
    · rw [hie] at hL; rw [key] at hL; cases hL
    · rw [Array.getElem?_setIfInBounds_ne hie]; exact key
end
end Go.Proofs.WK
