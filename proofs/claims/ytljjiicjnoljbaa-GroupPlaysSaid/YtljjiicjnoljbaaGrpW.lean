/-
  (*group.Group).Ack, Lose: what is written into a group.
-/
import Derived.Test.YtljjiicjnoljbaaGrpR
import Derived.BigRegion
namespace Go.Proofs.WK
open Go.RowKit Rp
variable {w w' : World} {G G' : Nat → Prop} {ga hb kb : Nat} {g : Grp} {lg : List ByteArray} {vl v0 : Value} {hs : List Value}
theorem GrpAt.more (h : GrpAt w G ga hb kb g lg vl v0 hs) (hG : ∀ k, G k → G' k) : GrpAt w G' ga hb kb g lg vl v0 hs :=
  ⟨h.bk, h.kk, h.hh, h.hl, h.h0, h.ol, h.o0, fun i v hi hv => (h.sl i v hi hv).mono fun k hk _ => ⟨hG k hk.1, hk.2⟩, ⟨hG _ h.inG.1, hG _ h.inG.2.1, hG _ h.inG.2.2.1, fun k hk => hG k (h.inG.2.2.2.1 k hk), fun k hk => hG k (h.inG.2.2.2.2 k hk)⟩, h.ne⟩
theorem GrpIs.more {ga : Nat} (h : GrpIs w G ga g) (hG : ∀ k, G k → G' k) : GrpIs w G' ga g := by
  obtain ⟨hb, kb, vl, v0, hs, h⟩ := h
  exact ⟨hb, kb, vl, v0, hs, h.more hG⟩
theorem chg_set (S : Nat → Prop) (w : World) (n o : Nat) (u : Value) (h : S n) : Chg S w (w.setCell ⟨n, o, none⟩ u) := by
  refine ⟨rfl, rfl, rfl, ?_, fun k _ hk => Below.heap_setCell _ _ _ k (fun e => hk (by have e2 : k = n := e; rw [e2]; exact h))⟩
  show w.heap.size ≤ (w.heap.modify n _).size
  simp
theorem GrpAt.setAck (h : GrpAt w G ga hb kb g lg vl v0 hs) (k : Nat) (x : Int) : GrpAt (w.setCell ⟨kb, k, none⟩ (.int .i64 x)) G ga hb kb { g with ack := g.ack.set k x } lg vl v0 hs := by
  have mv : ∀ j, j ≠ kb → (w.setCell ⟨kb, k, none⟩ (.int .i64 x)).heap[j]? = w.heap[j]? := fun j hj => Below.heap_setCell _ _ _ j hj
  have kk := h.kk.set k (.int .i64 x)
  rw [← List.map_set] at kk
  exact ⟨h.bk.other h.ne.2.1 _, kk, h.hh.other h.ne.2.2.1 _, h.hl, h.h0, h.ol.move (fun j hj => mv j (h.ne.2.2.2.1 j hj).2.2.1) (fun j hj => hj.elim), h.o0.move (fun j hj => mv j (h.ne.2.2.2.2 j hj).2.2) (fun j hj => hj.elim), fun i v hi hv => (h.sl i v hi hv).move fun j hj _ => mv j hj.2.2.2.1, h.inG, h.ne⟩
theorem GrpAt.setHas (h : GrpAt w G ga hb kb g lg vl v0 hs) {k : Nat} (hk : 1 ≤ k) {v : Value} {l : List ByteArray} (hv : str.Sl w (fun k => G k ∧ k ≠ ga ∧ k ≠ hb ∧ k ≠ kb ∧ some k ≠ vl.ownBlock ∧ some k ≠ v0.ownBlock) v l) :
    GrpAt (w.setCell ⟨hb, k, none⟩ v) G ga hb kb { g with has := g.has.set k l } lg vl v0 (hs.set k v) := by
  have mv : ∀ j, j ≠ hb → (w.setCell ⟨hb, k, none⟩ v).heap[j]? = w.heap[j]? := fun j hj => Below.heap_setCell _ _ _ j hj
  have l0 : (Grp.mk (g.has.set k l) g.ack).lst 0 = g.lst 0 := by rw [lst_set, if_neg (by omega)]
  have ll : (g.has.set k l).length = g.has.length := List.length_set
  refine ⟨?_, h.kk.other h.ne.2.2.1.symm _, h.hh.set k v, ?_, ?_, ?_, ?_, fun i u hi hu => ?_, h.inG, h.ne⟩
  · show Bk _ ga [.int .i64 ((g.has.set k l).length : Nat), vl, .slice _ (g.has.set k l).length (g.has.set k l).length, .slice _ (g.has.set k l).length (g.has.set k l).length]
    rw [ll]
    exact h.bk.other h.ne.1 _
  · show (hs.set k v).length = (g.has.set k l).length
    rw [ll, List.length_set]
    exact h.hl
  · rw [List.getElem?_set_ne (by omega)]
    exact h.h0
  · exact h.ol.move (fun j hj => mv j (h.ne.2.2.2.1 j hj).2.1) (fun j hj => hj.elim)
  · rw [l0]
    exact h.o0.move (fun j hj => mv j (h.ne.2.2.2.2 j hj).2.1) (fun j hj => hj.elim)
  · rw [lst_set]
    by_cases e : k = i
    · subst e
      have hlt : k < hs.length := by
        have := (List.getElem?_eq_some_iff.1 hu).1
        rwa [List.length_set] at this
      rw [if_pos ⟨rfl, by rw [← h.hl]; exact hlt⟩]
      rw [List.getElem?_set_self hlt] at hu
      obtain rfl : v = u := by injection hu
      exact hv.move fun j hj _ => mv j hj.2.2.1
    · rw [if_neg (by omega)]
      rw [List.getElem?_set_ne e] at hu
      exact (h.sl i u hi hu).move fun j hj _ => mv j hj.2.2.1
theorem GrpAt.fresh (h : GrpAt w G ga hb kb g lg vl v0 hs) {j : Nat} (hj : w.heap.size ≤ j) : j ≠ ga ∧ j ≠ hb ∧ j ≠ kb ∧ some j ≠ vl.ownBlock ∧ some j ≠ v0.ownBlock := by
  have h1 := h.bk.lt
  have h2 := h.hh.lt
  have h3 := h.kk.lt
  exact ⟨by omega, by omega, by omega, fun e => by have := (h.ol.lt j e.symm).2; omega, fun e => by have := (h.o0.lt j e.symm).2; omega⟩
/-- A list that is new is laid at a place behind the first. -/
theorem GrpAt.lay {w1 : World} (h : GrpAt w G ga hb kb g (g.lst 0) vl v0 hs) (hbl : Below w.heap.size w w1) {k : Nat} (hk : 1 ≤ k) {v : Value} {l : List ByteArray} (hv : str.Own 9 w1 w.heap.size (fun _ => False) v l) :
    ∃ G', GrpIs (w1.setCell ⟨hb, k, none⟩ v) G' ga { g with has := g.has.set k l } ∧ Chg G w (w1.setCell ⟨hb, k, none⟩ v) ∧ ∀ j, G' j → G j ∨ (w.heap.size ≤ j ∧ j < (w1.setCell ⟨hb, k, none⟩ v).heap.size) := by
  have h1 := (h.move (fun j _ hl => hbl.block j hl)).more (G' := fun j => G j ∨ (w.heap.size ≤ j ∧ j < w1.heap.size)) fun j hj => .inl hj
  have hsz : (w1.setCell ⟨hb, k, none⟩ v).heap.size = w1.heap.size := by simp [World.setCell]
  have h2 := h1.setHas hk (v := v) (l := l) (hv.sl.mono fun j hj hl => by
    rcases hj with hj | hj
    · exact hj.elim
    · have hlt := hv.lt j hj
      exact ⟨.inr ⟨hlt.1, hlt.2⟩, h.fresh hlt.1⟩)
  refine ⟨_, ⟨hb, kb, vl, v0, hs.set k v, ?_⟩, (Chg.of_below hbl).trans (chg_set G w1 hb k v h.inG.2.1) fun _ _ h => h, fun j hj => by rw [hsz]; exact hj⟩
  have l0 : (Grp.mk (g.has.set k l) g.ack).lst 0 = g.lst 0 := by rw [lst_set, if_neg (by omega)]
  rw [l0]
  exact h2
set_option maxHeartbeats 4000000 in
set_option maxRecDepth 100000 in
theorem groupAck (i n : Int) (h : GrpIs w G ga g) (hg : GrpOk g) : Calls Try.prog 40 #[.pointer (some ⟨ga, 0, none⟩), .int .i64 i, .int .i64 n] w fun e w' => e = .returned (.int .i64 (toldE g i n)) ∧ GrpIs w' G ga (toldG g i n) ∧ Chg G w w' := by
  have HI := Aside.mk (groupIs i h)
  have HG := Aside.mk h
  obtain ⟨hb, kb, vl, v0, hs, h⟩ := h
  obtain ⟨AL, cl, rfl, hcl, hrl⟩ := h.ol.sl
  have q := Bk.quad h.bk
  have HA := Aside.mk h
  cases hi : grpIs g i with
  | false =>
    have e : toldE g i n = 4 := if_pos hi
    have e2 : toldG g i n = g := by rw [toldG, e, if_neg (by decide)]
    rw [e2, e]
    have HH := Aside.mk hi
    clear h e hi hcl hrl e2
    go_enter Try.func40, Try.ntmps40
    go_wp2_with fail
    refine HI.out.mono ?_
    rw [HH.out]
    rintro e w1 ⟨rfl, rfl⟩
    go_wp2_with fail
    go_ret
    exact ⟨rfl, HG.out, Chg.refl _ _⟩
  | true =>
    have HH := Aside.mk hi
    have his := grpIs_iff hi
    obtain ⟨k, rfl⟩ : ∃ k : Nat, i = (k : Int) := ⟨i.toNat, by omega⟩
    have hk : k < g.has.length := by omega
    have p0 : (0 : Int) ≤ (k : Int) := by omega
    have p1 : (k : Int) < (g.has.length : Int) := by omega
    obtain ⟨A, c, x0, x1, x2⟩ := h.at_ hk
    have y0 := ack_at h.kk (i := k) (by rw [hg.ack]; exact hk)
    by_cases h0 : n < 0 ∨ ((g.lst 0).length : Int) < n ∨ ((g.lst k).length : Int) < n
    · have e : toldE g k n = 1 := by rw [toldE, if_neg (by simp [hi])]; exact if_pos h0
      have e2 : toldG g k n = g := by rw [toldG, e, if_neg (by decide)]
      rw [e2, e]
      clear e e2 hi x2 hcl hrl
      by_cases h1 : n < 0
      · have g1 : decide (n < 0) = true := decide_eq_true h1
        clear h h0 h1
        go_enter Try.func40, Try.ntmps40
        go_wp2_with fail
        refine HI.out.mono ?_
        rw [HH.out]
        rintro e w1 ⟨rfl, rfl⟩
        go_wp2_with fail
        go_ret
        exact ⟨rfl, HG.out, Chg.refl _ _⟩
      · have g1 : decide (n < 0) = false := decide_eq_false h1
        by_cases h2 : ((g.lst 0).length : Int) < n
        · have g2 : decide (((g.lst 0).length : Int) < n) = true := decide_eq_true h2
          clear h h0 h1 h2
          go_enter Try.func40, Try.ntmps40
          go_wp2_with fail
          refine HI.out.mono ?_
          rw [HH.out]
          rintro e w1 ⟨rfl, rfl⟩
          go_wp2_with fail
          go_ret
          exact ⟨rfl, HG.out, Chg.refl _ _⟩
        · have g2 : decide (((g.lst 0).length : Int) < n) = false := decide_eq_false h2
          have g3 : decide (((g.lst k).length : Int) < n) = true := decide_eq_true (by omega)
          clear h h0 h1 h2
          go_enter Try.func40, Try.ntmps40
          go_wp2_with fail
          refine HI.out.mono ?_
          rw [HH.out]
          rintro e w1 ⟨rfl, rfl⟩
          go_wp2_with fail
          go_ret
          exact ⟨rfl, HG.out, Chg.refl _ _⟩
    · have e : toldE g k n = 0 := by rw [toldE, if_neg (by simp [hi])]; exact if_neg h0
      have e2 : toldG g k n = { g with ack := g.ack.set k (max (g.ak k) n) } := by rw [toldG, e]; exact if_pos rfl
      rw [e2, e]
      have g1 : decide (n < 0) = false := decide_eq_false (by omega)
      have g2 : decide (((g.lst 0).length : Int) < n) = false := decide_eq_false (by omega)
      have g3 : decide (((g.lst k).length : Int) < n) = false := decide_eq_false (by omega)
      have y1 := h.kk.frozen
      clear e e2 hi x2 hcl hrl h h0 his
      change w.cell? ⟨kb, k, none⟩ = some (.int .i64 (g.ak k)) at y0
      generalize g.ak k = ak at *
      go_enter Try.func40, Try.ntmps40
      go_wp2_with fail
      refine HI.out.mono ?_
      rw [HH.out]
      rintro e w1 ⟨rfl, rfl⟩
      go_wp2_with fail
      go_region
      go_wp2_with fail
      all_goals
        go_ret
        refine ⟨rfl, ⟨hb, kb, .slice AL (g.lst 0).length cl, v0, hs, ?_⟩, (chg_set G w kb k _ HA.out.inG.2.2.1).trans (Chg.of_below (S := G) (below_drewN (Below.refl _ _) 1)) fun _ _ h => h⟩
        have h1 := HA.out.setAck k (max ak n)
        first
        | (rw [show max ak n = n by omega] at h1 ⊢
           exact h1.move fun _ _ _ => rfl)
        | (rw [show max ak n = ak by omega] at h1 ⊢
           exact h1.move fun _ _ _ => rfl)
end Go.Proofs.WK
