/-
  (*wyref.Group).Told, Lose.
-/
import Derived.Test.YtljjiicjnoljbaaRGrpR
namespace Go.Proofs.WK
open Go.RowKit Rp
variable {w w1 : World} {G G' : Nat → Prop} {gm hm km : Nat} {g : Grp} {hs : List Value}
def RWrote (w : World) (G : Nat → Prop) (gm : Nat) (g : Grp) (w' : World) : Prop := ∃ G', RGrpIs w' G' gm g ∧ Chg G w w' ∧ ∀ j, G' j → G j ∨ (w.heap.size ≤ j ∧ j < w'.heap.size)
theorem RWrote.same (h : RGrpIs w G gm g) : RWrote w G gm g w := ⟨G, h, Chg.refl _ _, fun _ hj => .inl hj⟩
theorem RWrote.below {w' : World} (h : RGrpIs w G gm g) (hb : Below w.heap.size w w') : RWrote w G gm g w' := ⟨G, h.below hb, Chg.of_below hb, fun _ hj => .inl hj⟩
/-- What lies ahead of the writing, and behind it, leaves it alone. -/
theorem RWrote.ahead {w0 : World} (h : RWrote w1 G gm g w) (hb : Below w0.heap.size w0 w1) : RWrote w0 G gm g w := by
  obtain ⟨G', h1, h2, h3⟩ := h
  exact ⟨G', h1, (Chg.of_below hb).trans h2 fun _ _ h => h, fun j hj => (h3 j hj).imp id fun h => ⟨Nat.le_trans hb.size h.1, h.2⟩⟩
theorem RWrote.then {w' : World} (h : RWrote w1 G gm g w) (hb : Below w.heap.size w w') : RWrote w1 G gm g w' := by
  obtain ⟨G', h1, h2, h3⟩ := h
  exact ⟨G', h1.below hb, h2.trans (Chg.of_below (S := G) hb) fun _ _ h => h, fun j hj => (h3 j hj).imp id fun h => ⟨h.1, Nat.lt_of_lt_of_le h.2 hb.size⟩⟩
theorem RGrpAt.more (h : RGrpAt w G gm hm km g hs) (hG : ∀ k, G k → G' k) : RGrpAt w G' gm hm km g hs :=
  ⟨h.bk, h.kk, h.hh, h.hl, fun i v hv => (h.sl i v hv).mono fun k hk _ => ⟨hG k hk.1, hk.2⟩, ⟨hG _ h.inG.1, hG _ h.inG.2.1, hG _ h.inG.2.2⟩, h.ne⟩
theorem RGrpAt.move (h : RGrpAt w G gm hm km g hs) (hmv : ∀ k, G k → k < w.heap.size → w1.heap[k]? = w.heap[k]?) : RGrpAt w1 G gm hm km g hs := by
  have mb : ∀ {n cs}, G n → Bk w n cs → Bk w1 n cs := fun hn hb => by
    obtain ⟨t, e⟩ := hb
    exact ⟨t, (hmv _ hn (Array.getElem?_eq_some_iff.1 e).1).trans e⟩
  exact ⟨mb h.inG.1 h.bk, mb h.inG.2.2 h.kk, mb h.inG.2.1 h.hh, h.hl, fun i v hv => (h.sl i v hv).move fun k hk hl => hmv k hk.1 hl, h.inG, h.ne⟩
theorem RGrpAt.setAck (h : RGrpAt w G gm hm km g hs) (k : Nat) (x : Int) : RGrpAt (w.setCell ⟨km, k, none⟩ (.int .i64 x)) G gm hm km { g with ack := g.ack.set k x } hs := by
  have mv : ∀ j, j ≠ km → (w.setCell ⟨km, k, none⟩ (.int .i64 x)).heap[j]? = w.heap[j]? := fun j hj => Below.heap_setCell _ _ _ j hj
  have kk := h.kk.set k (.int .i64 x)
  rw [← List.map_set] at kk
  exact ⟨h.bk.other h.ne.2.1 _, kk, h.hh.other h.ne.2.2 _, h.hl, fun i v hv => (h.sl i v hv).move fun j hj _ => mv j hj.2.2.2, h.inG, h.ne⟩
theorem RGrpAt.wack (h : RGrpAt w G gm hm km g hs) (k : Nat) (x : Int) : RWrote w G gm { g with ack := g.ack.set k x } (w.setCell ⟨km, k, none⟩ (.int .i64 x)) :=
  ⟨G, ⟨hm, km, hs, h.setAck k x⟩, chg_set G w km k (.int .i64 x) h.inG.2.2, fun _ hj => .inl hj⟩
theorem RGrpAt.setHas (h : RGrpAt w G gm hm km g hs) (k : Nat) {v : Value} {l : List ByteArray} (hv : str.Sl w (fun k => G k ∧ k ≠ gm ∧ k ≠ hm ∧ k ≠ km) v l) :
    RGrpAt (w.setCell ⟨hm, k, none⟩ v) G gm hm km { g with has := g.has.set k l } (hs.set k v) := by
  have mv : ∀ j, j ≠ hm → (w.setCell ⟨hm, k, none⟩ v).heap[j]? = w.heap[j]? := fun j hj => Below.heap_setCell _ _ _ j hj
  have ll : (g.has.set k l).length = g.has.length := List.length_set
  refine ⟨?_, h.kk.other h.ne.2.2.symm _, h.hh.set k v, ?_, fun i u hu => ?_, h.inG, h.ne⟩
  · show Bk _ gm [.slice _ (g.has.set k l).length (g.has.set k l).length, .slice _ (g.has.set k l).length (g.has.set k l).length]
    rw [ll]
    exact h.bk.other h.ne.1 _
  · show (hs.set k v).length = (g.has.set k l).length
    rw [ll, List.length_set]
    exact h.hl
  · rw [lst_set]
    by_cases e : k = i
    · subst e
      have hlt : k < hs.length := by
        have := (List.getElem?_eq_some_iff.1 hu).1
        rwa [List.length_set] at this
      rw [if_pos ⟨rfl, by rw [← h.hl]; exact hlt⟩]
      rw [List.getElem?_set_self hlt] at hu
      obtain rfl : v = u := by injection hu
      exact hv.move fun j hj _ => mv j hj.2.2.1
    · rw [if_neg (by omega)]
      rw [List.getElem?_set_ne e] at hu
      exact (h.sl i u hu).move fun j hj _ => mv j hj.2.2.1
/-- A list that is new, or that the group has already, is laid at a place. -/
theorem RGrpAt.layAt (h : RGrpAt w G gm hm km g hs) (hbl : Below w.heap.size w w1) (k : Nat) {v : Value} {l : List ByteArray} (hv : str.Sl w1 (fun j => (G j ∧ j ≠ gm ∧ j ≠ hm ∧ j ≠ km) ∨ w.heap.size ≤ j) v l) :
    RGrpAt (w1.setCell ⟨hm, k, none⟩ v) (fun j => G j ∨ (w.heap.size ≤ j ∧ j < w1.heap.size)) gm hm km { g with has := g.has.set k l } (hs.set k v) ∧ Chg G w (w1.setCell ⟨hm, k, none⟩ v) := by
  have h1 := (h.move (fun j _ hl => hbl.block j hl)).more (G' := fun j => G j ∨ (w.heap.size ≤ j ∧ j < w1.heap.size)) fun j hj => .inl hj
  have l1 := h.bk.lt
  have l2 := h.hh.lt
  have l3 := h.kk.lt
  have h2 := h1.setHas k (v := v) (l := l) (hv.mono fun j hj hl => by
    rcases hj with hj | hj
    · exact ⟨.inl hj.1, hj.2⟩
    · exact ⟨.inr ⟨hj, hl⟩, by omega, by omega, by omega⟩)
  exact ⟨h2, (Chg.of_below hbl).trans (chg_set G w1 hm k v h.inG.2.1) fun _ _ h => h⟩
theorem RGrpAt.lay (h : RGrpAt w G gm hm km g hs) (hbl : Below w.heap.size w w1) (k : Nat) {v : Value} {l : List ByteArray} (hv : str.Sl w1 (fun j => (G j ∧ j ≠ gm ∧ j ≠ hm ∧ j ≠ km) ∨ w.heap.size ≤ j) v l) :
    RWrote w G gm { g with has := g.has.set k l } (w1.setCell ⟨hm, k, none⟩ v) := by
  obtain ⟨h1, h2⟩ := h.layAt hbl k hv
  have hsz : (w1.setCell ⟨hm, k, none⟩ v).heap.size = w1.heap.size := setCell_size _ _ _
  exact ⟨_, ⟨hm, km, _, h1⟩, h2, fun j hj => by rw [hsz]; exact hj⟩
set_option maxHeartbeats 4000000 in
set_option maxRecDepth 100000 in
theorem refTold (i n : Int) (h : RGrpIs w G gm g) (hg : GrpOk g) : Calls Try.prog 49 #[.pointer (some ⟨gm, 0, none⟩), .int .i64 i, .int .i64 n] w fun e w' => e = .returned (.int .i64 (toldE g i n)) ∧ RWrote w G gm (toldG g i n) w' := by
  have HI := Aside.mk (refIs i h hg)
  have HG := Aside.mk h
  obtain ⟨hm, km, hs, h⟩ := h
  have q := Bk.two h.bk
  have HA := Aside.mk h
  cases hi : grpIs g i with
  | false =>
    have e : toldE g i n = 4 := if_pos hi
    have e2 : toldG g i n = g := by rw [toldG, e, if_neg (by decide)]
    rw [e2, e]
    have HH := Aside.mk hi
    clear h e hi e2
    go_enter Try.func49, Try.ntmps49
    go_wp2_with fail
    refine HI.out.mono ?_
    rw [HH.out]
    rintro e w1 ⟨rfl, rfl⟩
    go_wp2_with fail
    go_ret
    exact ⟨rfl, .same HG.out⟩
  | true =>
    have HH := Aside.mk hi
    have his := grpIs_iff hi
    obtain ⟨k, rfl⟩ : ∃ k : Nat, i = (k : Int) := ⟨i.toNat, by omega⟩
    have hk : k < g.has.length := by omega
    have hpos : 0 < g.has.length := by omega
    have p0 : (0 : Int) ≤ (k : Int) := by omega
    have p1 : (k : Int) < (g.has.length : Int) := by omega
    have p2 : (0 : Int) < (g.has.length : Int) := by omega
    obtain ⟨A, c, x0, x1, x2⟩ := h.at_ hk
    obtain ⟨A0, c0, z0, _, _⟩ := h.at_ hpos
    have y0 := ack_at h.kk (i := k) (by rw [hg.ack]; exact hk)
    by_cases h0 : n < 0 ∨ ((g.lst 0).length : Int) < n ∨ ((g.lst k).length : Int) < n
    · have e : toldE g k n = 1 := by rw [toldE, if_neg (by simp [hi])]; exact if_pos h0
      have e2 : toldG g k n = g := by rw [toldG, e, if_neg (by decide)]
      rw [e2, e]
      have HW : Aside (decide (0 ≤ n ∧ n ≤ if (g.lst 0).length < (g.lst k).length then ((g.lst 0).length : Int) else ((g.lst k).length : Int)) = false) := ⟨decide_eq_false (by split <;> omega)⟩
      clear e e2 hi x2 h h0
      go_enter Try.func49, Try.ntmps49
      go_wp2_with fail
      refine HI.out.mono ?_
      rw [HH.out]
      rintro e w1 ⟨rfl, rfl⟩
      go_wp2_with fail
      go_quiet ((go_at_call 59; exact Calls.quiet_of_same ((within _ _ _ _).mono fun _ _ h => ⟨h.1.trans (by rw [HW.out]), h.2.symm⟩)))
      go_wp2_with fail
      all_goals
        go_ret
        exact ⟨rfl, .below HG.out (below_drewN (Below.refl _ _) _)⟩
    · have e : toldE g k n = 0 := by rw [toldE, if_neg (by simp [hi])]; exact if_neg h0
      have e2 : toldG g k n = { g with ack := g.ack.set k (max (g.ak k) n) } := by rw [toldG, e]; exact if_pos rfl
      rw [e2, e]
      have HW : Aside (decide (0 ≤ n ∧ n ≤ if (g.lst 0).length < (g.lst k).length then ((g.lst 0).length : Int) else ((g.lst k).length : Int)) = true) := ⟨decide_eq_true (by split <;> omega)⟩
      have y1 := h.kk.frozen
      clear e e2 hi x2 h h0 his
      change w.cell? ⟨km, k, none⟩ = some (.int .i64 (g.ak k)) at y0
      generalize g.ak k = ak at *
      go_enter Try.func49, Try.ntmps49
      go_wp2_with fail
      refine HI.out.mono ?_
      rw [HH.out]
      rintro e w1 ⟨rfl, rfl⟩
      go_wp2_with fail
      go_quiet ((go_at_call 59; exact Calls.quiet_of_same ((within _ _ _ _).mono fun _ _ h => ⟨h.1.trans (by rw [HW.out]), h.2.symm⟩)))
      go_wp2_with fail
      all_goals
        go_region
        go_wp2_with fail
      all_goals
        go_ret
        have h1 := ((HA.out.move (w1 := w.drewN (nq + 1)) fun _ _ _ => rfl).wack k (max ak n)).ahead (w0 := w) (below_drewN (Below.refl _ _) _)
        first
        | (rw [show max ak n = n by omega] at h1 ⊢
           exact ⟨rfl, h1⟩)
        | (rw [show max ak n = ak by omega] at h1 ⊢
           exact ⟨rfl, h1⟩)
set_option maxHeartbeats 4000000 in
set_option maxRecDepth 100000 in
theorem refLose (i n : Int) (h : RGrpIs w G gm g) (hg : GrpOk g) : Calls Try.prog 51 #[.pointer (some ⟨gm, 0, none⟩), .int .i64 i, .int .i64 n] w fun e w' => e = .returned (.int .i64 (loseE g i n)) ∧ RWrote w G gm (loseG g i n) w' := by
  have HI := Aside.mk (refIs i h hg)
  have HG := Aside.mk h
  obtain ⟨hm, km, hs, h⟩ := h
  have q := Bk.two h.bk
  have HA := Aside.mk h
  cases hi : grpIs g i with
  | false =>
    have e : loseE g i n = 4 := if_pos hi
    have e2 : loseG g i n = g := by rw [loseG, e, if_neg (by decide)]
    rw [e2, e]
    have HH := Aside.mk hi
    clear h e hi e2
    go_enter Try.func51, Try.ntmps51
    go_wp2_with fail
    refine HI.out.mono ?_
    rw [HH.out]
    rintro e w1 ⟨rfl, rfl⟩
    go_wp2_with fail
    go_ret
    exact ⟨rfl, .same HG.out⟩
  | true =>
    have HH := Aside.mk hi
    have his := grpIs_iff hi
    obtain ⟨k, rfl⟩ : ∃ k : Nat, i = (k : Int) := ⟨i.toNat, by omega⟩
    have hk : k < g.has.length := by omega
    have p0 : (0 : Int) ≤ (k : Int) := by omega
    have p1 : (k : Int) < (g.has.length : Int) := by omega
    have hlt : k < hs.length := by rw [h.hl]; exact hk
    have x0 : w.cell? ⟨hm, k, none⟩ = some hs[k] := by rw [h.hh.cell, List.getElem?_eq_getElem hlt]
    have hsl := h.sl k hs[k] (List.getElem?_eq_getElem hlt)
    generalize hs[k] = u at x0 hsl
    obtain ⟨A, c, rfl, x1, x2⟩ := hsl
    have y0 := ack_at h.kk (i := k) (by rw [hg.ack]; exact hk)
    change w.cell? ⟨km, k, none⟩ = some (.int .i64 (g.ak k)) at y0
    have hak := hg.ak k
    have hlen := hg.len k
    by_cases h0 : n < g.ak k ∨ ((g.lst k).length : Int) < n
    · have e : loseE g k n = 1 := by rw [loseE, if_neg (by simp [hi])]; exact if_pos h0
      have e2 : loseG g k n = g := by rw [loseG, e, if_neg (by decide)]
      rw [e2, e]
      have HW : Aside (decide (g.ak k ≤ n ∧ n ≤ ((g.lst k).length : Int)) = false) := ⟨decide_eq_false (by omega)⟩
      clear e e2 hi x2 h h0 hak
      go_enter Try.func51, Try.ntmps51
      go_wp2_with fail
      refine HI.out.mono ?_
      rw [HH.out]
      rintro e w1 ⟨rfl, rfl⟩
      go_wp2_with fail
      go_quiet ((go_at_call 59; exact Calls.quiet_of_same ((within _ _ _ _).mono fun _ _ h => ⟨h.1.trans (by rw [HW.out]), h.2.symm⟩)))
      go_wp2_with fail
      go_ret
      exact ⟨rfl, .below HG.out (below_drewN (Below.refl _ _) _)⟩
    · have e : loseE g k n = 0 := by rw [loseE, if_neg (by simp [hi])]; exact if_neg h0
      have e2 : loseG g k n = { g with has := g.has.set k ((g.lst k).take n.toNat) } := by rw [loseG, e]; exact if_pos rfl
      rw [e2, e]
      have HW : Aside (decide (g.ak k ≤ n ∧ n ≤ ((g.lst k).length : Int)) = true) := ⟨decide_eq_true (by omega)⟩
      obtain ⟨m, rfl⟩ : ∃ m : Nat, n = (m : Int) := ⟨n.toNat, by omega⟩
      rw [show ((m : Int)).toNat = m from rfl]
      have m0 : (0 : Int) ≤ (m : Int) := by omega
      have m1 : (m : Int) ≤ (c : Int) := by omega
      have HR := Aside.mk (x2.take m)
      have HLT : Aside (((g.lst k).take m).length = m) := ⟨by rw [List.length_take]; omega⟩
      have fz := h.hh.frozen
      clear e e2 hi x2 h h0 hak his hk hlt
      go_enter Try.func51, Try.ntmps51
      go_wp2_with fail
      refine HI.out.mono ?_
      rw [HH.out]
      rintro e w1 ⟨rfl, rfl⟩
      go_wp2_with fail
      go_quiet ((go_at_call 59; exact Calls.quiet_of_same ((within _ _ _ _).mono fun _ _ h => ⟨h.1.trans (by rw [HW.out]), h.2.symm⟩)))
      go_wp2_with fail
      go_region
      go_wp2_with fail
      all_goals
        go_ret
        exact ⟨rfl, HA.out.lay (below_drewN (Below.refl _ _) _) k ⟨A, m, by rw [HLT.out], by rw [HLT.out]; exact Nat.le_refl _, (HR.out.mono (ok' := fun j => (G j ∧ j ≠ gm ∧ j ≠ hm ∧ j ≠ km) ∨ w.heap.size ≤ j) fun j hj _ => .inl hj).below (below_drewN (Below.refl _ _) _)⟩⟩
end Go.Proofs.WK
