/-
  (*group.Group).Add.
-/
import Derived.Test.YtljjiicjnoljbaaGrpT
namespace Go.Proofs.WK
open Go.RowKit Rp
variable {w w1 : World} {G : Nat → Prop} {ga hb kb : Nat} {g : Grp} {lg lg' : List ByteArray} {vl v0 v1 : Value} {hs : List Value}
theorem setCell_size (w : World) (p : Addr) (u : Value) : (w.setCell p u).heap.size = w.heap.size := by simp [World.setCell]
theorem Bk.movedBy' {w w' : World} {n : Nat} {cs : List Value} (h : Bk w n cs) (e : w'.heap[n]? = w.heap[n]?) : Bk w' n cs := by
  obtain ⟨t, h⟩ := h
  exact ⟨t, e.trans h⟩
/-- What append(v, x) answers, as an equation. -/
theorem run_one {α : Type} {P : Program} {W : World} (d : Rp α) (base : Nat) (t ty e : TypeId) (z : Value) (bytes : Nat)
    (ht : P.underlying t = some (.slice e)) (hinfo : (P.info? e).map (fun i => (i.zero, i.size, i.bytes)) = some (some z, d.sz, bytes)) (hz : z.cells.size = d.sz) (hs0 : 0 < d.sz) (hb0 : 0 < bytes)
    (v : Value) (xs : List α) (p : α) (ys : List Value) (ok : Nat → Prop) (B c : Nat)
    (hB : ∃ t fr, W.heap[B]? = some (.cells ys.toArray t fr)) (hp : d.K W (fun k => ok k ∧ some k ≠ v.ownBlock) p ys)
    (HO : d.Own e W base ok v xs) (hbase : base ≤ W.heap.size) (hl : (xs.length + 1) * bytes ≤ 140737488355328) :
    ∃ v1 w1, (Builtin.append_ #[t, t] ty #[v, .slice (some ⟨B, 0, none⟩) 1 c]).run P W = .ok v1 w1 ∧ d.Own e w1 base ok v1 (xs ++ [p]) ∧ W.grownBy w1 v.ownBlock ∧ (v1.ownBlock = v.ownBlock ∨ ∃ b, v1.ownBlock = some b ∧ W.heap.size ≤ b) := by
  obtain ⟨i0, hi, hzz⟩ := Option.map_eq_some_iff.1 hinfo
  simp only [Prod.mk.injEq] at hzz
  obtain ⟨hz0, hz1, hz2⟩ := hzz
  have hlen : xs.length + 1 ≤ 140737488355328 := Nat.le_trans (Nat.le_mul_of_pos_right _ hb0) hl
  obtain ⟨inner, hown, hr⟩ := HO
  have hys := d.len hp
  obtain ⟨tB, fr, hB⟩ := hB
  obtain ⟨v1, w1, hrun, hown1, hg, _, hat⟩ := run_append_own_at (P := P) W base t ty e i0 z d.sz bytes ht hi hz0 hz1 hz2 hz hs0 v xs.length inner hown ⟨B, 0, none⟩ 1 c ys (by rw [hys]; simp)
    (fun j u hu => World.news_of_block hB j u (by simpa using hu)) (d.one hp) (by simp only [maxLen]; omega) hl hbase
  have hat1 : v1.ownBlock = v.ownBlock ∨ ∃ b, v1.ownBlock = some b ∧ W.heap.size ≤ b := by
    rcases hat with hat | hat
    · exact .inl hat
    · exact .inr ⟨_, hat, Nat.le_refl _⟩
  refine ⟨v1, w1, hrun, Own.appended (ys := [p]) hr ⟨by simp [hys], fun j q hq => ?_⟩ hown1 hg hat1, hg, hat1⟩
  match j, hq with
  | 0, hq =>
    obtain rfl : p = q := by simpa using hq
    rw [Nat.zero_mul, List.drop_zero, ← hys, List.take_length]
    exact hp
/-- The log has grown, and stands in its place. -/
theorem GrpAt.setLog (h : GrpAt w G ga hb kb g lg vl v0 hs) (hg : w.grownBy w1 vl.ownBlock) (hO : str.Own 9 w1 0 (fun _ => False) v1 lg') (hat : v1.ownBlock = vl.ownBlock ∨ ∃ b, v1.ownBlock = some b ∧ w.heap.size ≤ b) :
    GrpAt (w1.setCell ⟨ga, 1, none⟩ v1) (fun j => G j ∨ (w.heap.size ≤ j ∧ j < w1.heap.size)) ga hb kb g lg' v1 v0 hs := by
  have nv : ∀ j, j < w.heap.size → some j ≠ vl.ownBlock → some j ≠ v1.ownBlock := fun j hj hn e => by
    rcases hat with hat | ⟨b, hat, hb⟩
    · exact hn (e.trans hat)
    · rw [hat] at e
      injection e with e
      omega
  have mg : ∀ j, j < w.heap.size → some j ≠ vl.ownBlock → j ≠ ga → (w1.setCell ⟨ga, 1, none⟩ v1).heap[j]? = w.heap[j]? := fun j hl hn hj => (Below.heap_setCell _ _ _ j hj).trans (hg.block j hl hn)
  have own : ∀ {n}, (n = ga ∨ n = hb ∨ n = kb) → some n ≠ vl.ownBlock := fun hn e => by
    have := h.ne.2.2.2.1 _ e.symm
    omega
  have l1 := h.bk.lt
  have l2 := h.hh.lt
  have l3 := h.kk.lt
  have hv1 : ∀ j, v1.ownBlock = some j → j ≠ ga ∧ j ≠ hb ∧ j ≠ kb ∧ v0.ownBlock ≠ some j := fun j hj => by
    rcases hat with hat | ⟨b, hat, hbb⟩
    · exact h.ne.2.2.2.1 j (hat ▸ hj)
    · rw [hat] at hj
      injection hj with hj
      subst hj
      exact ⟨by omega, by omega, by omega, fun e => by have := (h.o0.lt _ e).2; omega⟩
  refine ⟨((h.bk.movedBy' (hg.block ga l1 (own (.inl rfl)))).set 1 v1), h.kk.movedBy' (mg kb l3 (own (.inr (.inr rfl))) h.ne.2.1.symm), h.hh.movedBy' (mg hb l2 (own (.inr (.inl rfl))) h.ne.1.symm), h.hl, h.h0, ?_, ?_, fun i v hi hv => ?_, ⟨.inl h.inG.1, .inl h.inG.2.1, .inl h.inG.2.2.1, fun j hj => ?_, fun j hj => .inl (h.inG.2.2.2.2 j hj)⟩, ⟨h.ne.1, h.ne.2.1, h.ne.2.2.1, hv1, h.ne.2.2.2.2⟩⟩
  · exact hO.move (fun j hj => Below.heap_setCell _ _ _ j (hv1 j hj).1) (fun j hj => hj.elim)
  · exact h.o0.move (fun j hj => mg j (h.o0.lt j hj).2 (fun e => (h.ne.2.2.2.1 j e.symm).2.2.2 hj) (h.ne.2.2.2.2 j hj).1) (fun j hj => hj.elim)
  · have h1 := (h.sl i v hi hv)
    exact (h1.mono (ok' := fun j => (G j ∧ j < w.heap.size) ∧ j ≠ ga ∧ j ≠ hb ∧ j ≠ kb ∧ some j ≠ vl.ownBlock ∧ some j ≠ v0.ownBlock) fun j hj hl => ⟨⟨hj.1, hl⟩, hj.2⟩).move (fun j hj hl => mg j hl hj.2.2.2.2.1 hj.2.1) |>.mono fun j hj _ => ⟨.inl hj.1.1, hj.2.1, hj.2.2.1, hj.2.2.2.1, nv j hj.1.2 hj.2.2.2.2.1, hj.2.2.2.2.2⟩
  · rcases hat with hat | ⟨b, hat, hbb⟩
    · exact .inl (h.inG.2.2.2.1 j (hat ▸ hj))
    · have := hO.lt j hj
      rw [hat] at hj
      injection hj with hj
      exact .inr ⟨by omega, this.2⟩
/-- The first list has grown, and stands in its place. -/
theorem GrpAt.setFirst {l : List ByteArray} (h : GrpAt w G ga hb kb g lg vl v0 hs) (hpos : 1 ≤ g.has.length) (hg : w.grownBy w1 v0.ownBlock) (hO : str.Own 9 w1 0 (fun _ => False) v1 l) (hat : v1.ownBlock = v0.ownBlock ∨ ∃ b, v1.ownBlock = some b ∧ w.heap.size ≤ b) :
    GrpAt (w1.setCell ⟨hb, 0, none⟩ v1) (fun j => G j ∨ (w.heap.size ≤ j ∧ j < w1.heap.size)) ga hb kb { g with has := g.has.set 0 l } lg vl v1 (hs.set 0 v1) := by
  have nv : ∀ j, j < w.heap.size → some j ≠ v0.ownBlock → some j ≠ v1.ownBlock := fun j hj hn e => by
    rcases hat with hat | ⟨b, hat, hb⟩
    · exact hn (e.trans hat)
    · rw [hat] at e
      injection e with e
      omega
  have mg : ∀ j, j < w.heap.size → some j ≠ v0.ownBlock → j ≠ hb → (w1.setCell ⟨hb, 0, none⟩ v1).heap[j]? = w.heap[j]? := fun j hl hn hj => (Below.heap_setCell _ _ _ j hj).trans (hg.block j hl hn)
  have own : ∀ {n}, (n = ga ∨ n = hb ∨ n = kb) → some n ≠ v0.ownBlock := fun hn e => by
    have := h.ne.2.2.2.2 _ e.symm
    omega
  have l1 := h.bk.lt
  have l2 := h.hh.lt
  have l3 := h.kk.lt
  have hv1 : ∀ j, v1.ownBlock = some j → j ≠ ga ∧ j ≠ hb ∧ j ≠ kb := fun j hj => by
    rcases hat with hat | ⟨b, hat, hbb⟩
    · exact h.ne.2.2.2.2 j (hat ▸ hj)
    · rw [hat] at hj
      injection hj with hj
      subst hj
      exact ⟨by omega, by omega, by omega⟩
  have ll : (g.has.set 0 l).length = g.has.length := List.length_set
  have hlh : 0 < hs.length := by rw [h.hl]; omega
  refine ⟨?_, h.kk.movedBy' (mg kb l3 (own (.inr (.inr rfl))) h.ne.2.2.1.symm), ((h.hh.movedBy' (hg.block hb l2 (own (.inr (.inl rfl))))).set 0 v1), ?_, ?_, ?_, ?_, fun i v hi hv => ?_, ⟨.inl h.inG.1, .inl h.inG.2.1, .inl h.inG.2.2.1, fun j hj => .inl (h.inG.2.2.2.1 j hj), fun j hj => ?_⟩, ⟨h.ne.1, h.ne.2.1, h.ne.2.2.1, fun j hj => ?_, hv1⟩⟩
  · show Bk _ ga [.int .i64 ((g.has.set 0 l).length : Nat), vl, .slice _ (g.has.set 0 l).length (g.has.set 0 l).length, .slice _ (g.has.set 0 l).length (g.has.set 0 l).length]
    rw [ll]
    exact h.bk.movedBy' (mg ga l1 (own (.inl rfl)) h.ne.1)
  · show (hs.set 0 v1).length = (g.has.set 0 l).length
    rw [ll, List.length_set]
    exact h.hl
  · rw [List.getElem?_set_self hlh]
  · exact h.ol.move (fun j hj => mg j (h.ol.lt j hj).2 (fun e => (h.ne.2.2.2.1 j hj).2.2.2 e.symm) (h.ne.2.2.2.1 j hj).2.1) (fun j hj => hj.elim)
  · rw [lst_set, if_pos ⟨rfl, by omega⟩]
    exact hO.move (fun j hj => Below.heap_setCell _ _ _ j (hv1 j hj).2.1) (fun j hj => hj.elim)
  · rw [List.getElem?_set_ne (by omega)] at hv
    rw [lst_set, if_neg (by omega)]
    have h1 := (h.sl i v hi hv)
    exact (h1.mono (ok' := fun j => (G j ∧ j < w.heap.size) ∧ j ≠ ga ∧ j ≠ hb ∧ j ≠ kb ∧ some j ≠ vl.ownBlock ∧ some j ≠ v0.ownBlock) fun j hj hl => ⟨⟨hj.1, hl⟩, hj.2⟩).move (fun j hj hl => mg j hl hj.2.2.2.2.2 hj.2.2.1) |>.mono fun j hj _ => ⟨.inl hj.1.1, hj.2.1, hj.2.2.1, hj.2.2.2.1, hj.2.2.2.2.1, nv j hj.1.2 hj.2.2.2.2.2⟩
  · rcases hat with hat | ⟨b, hat, hbb⟩
    · exact .inl (h.inG.2.2.2.2 j (hat ▸ hj))
    · have := hO.lt j hj
      rw [hat] at hj
      injection hj with hj
      exact .inr ⟨by omega, this.2⟩
  · have h1 := h.ne.2.2.2.1 j hj
    refine ⟨h1.1, h1.2.1, h1.2.2.1, fun e => ?_⟩
    rcases hat with hat | ⟨b, hat, hbb⟩
    · exact h1.2.2.2 (hat ▸ e)
    · rw [hat] at e
      injection e with e
      have := (h.ol.lt j hj).2
      omega
end Go.Proofs.WK
