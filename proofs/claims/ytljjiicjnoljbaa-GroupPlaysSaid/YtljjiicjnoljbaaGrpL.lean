/-
  (*group.Group).Lose.
-/
import Derived.Test.YtljjiicjnoljbaaGrpW
import Derived.Deep.RegionWith
namespace Go.Proofs.WK
open Go.RowKit Rp
variable {w w' : World} {G G' : Nat → Prop} {ga : Nat} {g : Grp}
theorem cell_else {w : World} {a b i j : Nat} {u v : Value} (h : w.cell? ⟨a, i, none⟩ = some u) (hne : b ≠ a) : (w.setCell ⟨b, j, none⟩ v).cell? ⟨a, i, none⟩ = some u := (World.cell?_setCell_far w ⟨b, j, none⟩ ⟨a, i, none⟩ v hne).trans h
/-- What a method that writes leaves of a group. -/
def Wrote (w : World) (G : Nat → Prop) (ga : Nat) (g : Grp) (w' : World) : Prop := ∃ G', GrpIs w' G' ga g ∧ Chg G w w' ∧ ∀ j, G' j → G j ∨ (w.heap.size ≤ j ∧ j < w'.heap.size)
theorem Wrote.same (h : GrpIs w G ga g) : Wrote w G ga g w := ⟨G, h, Chg.refl _ _, fun _ hj => .inl hj⟩
set_option maxHeartbeats 4000000 in
set_option maxRecDepth 100000 in
theorem groupLose (i n : Int) (h : GrpIs w G ga g) (hg : GrpOk g) : Calls Try.prog 50 #[.pointer (some ⟨ga, 0, none⟩), .int .i64 i, .int .i64 n] w fun e w' => e = .returned (.int .i64 (loseE g i n)) ∧ Wrote w G ga (loseG g i n) w' := by
  have HI := Aside.mk (groupIs i h)
  have HG := Aside.mk h
  obtain ⟨hb, kb, vl, v0, hs, h⟩ := h
  have q := Bk.quad h.bk
  have HA := Aside.mk h
  cases hi : grpIs g i with
  | false =>
    have e : loseE g i n = 4 := if_pos hi
    have e2 : loseG g i n = g := by rw [loseG, e, if_neg (by decide)]
    rw [e2, e]
    have HH := Aside.mk hi
    clear h e hi e2
    go_enter Try.func50, Try.ntmps50
    go_wp2_with fail
    refine HI.out.mono ?_
    rw [HH.out]
    rintro e w1 ⟨rfl, rfl⟩
    go_wp2_with fail
    go_ret
    exact ⟨rfl, .same HG.out⟩
  | true =>
    have HH := Aside.mk hi
    have his := grpIs_iff hi
    obtain ⟨k, rfl⟩ : ∃ k : Nat, i = (k : Int) := ⟨i.toNat, by omega⟩
    have hk : k < g.has.length := by omega
    have p0 : (0 : Int) ≤ (k : Int) := by omega
    have p1 : (k : Int) < (g.has.length : Int) := by omega
    obtain ⟨A, c, x0, x1, x2⟩ := h.at_ hk
    have y0 := ack_at h.kk (i := k) (by rw [hg.ack]; exact hk)
    change w.cell? ⟨kb, k, none⟩ = some (.int .i64 (g.ak k)) at y0
    by_cases h0 : n < g.ak k ∨ ((g.lst k).length : Int) < n
    · have e : loseE g k n = 1 := by rw [loseE, if_neg (by simp [hi])]; exact if_pos h0
      have e2 : loseG g k n = g := by rw [loseG, e, if_neg (by decide)]
      rw [e2, e]
      clear e e2 hi x2
      by_cases h1 : n < g.ak k
      · have g1 : decide (n < g.ak k) = true := decide_eq_true h1
        clear h h0 h1
        go_enter Try.func50, Try.ntmps50
        go_wp2_with fail
        refine HI.out.mono ?_
        rw [HH.out]
        rintro e w1 ⟨rfl, rfl⟩
        go_wp2_with fail
        go_ret
        exact ⟨rfl, .same HG.out⟩
      · have g1 : decide (n < g.ak k) = false := decide_eq_false h1
        have g3 : decide (((g.lst k).length : Int) < n) = true := decide_eq_true (by omega)
        clear h h0 h1
        go_enter Try.func50, Try.ntmps50
        go_wp2_with fail
        refine HI.out.mono ?_
        rw [HH.out]
        rintro e w1 ⟨rfl, rfl⟩
        go_wp2_with fail
        go_ret
        exact ⟨rfl, .same HG.out⟩
    · have e : loseE g k n = 0 := by rw [loseE, if_neg (by simp [hi])]; exact if_neg h0
      have e2 : loseG g k n = { g with has := g.has.set k ((g.lst k).take n.toNat) } := by rw [loseG, e]; exact if_pos rfl
      rw [e2, e]
      have g1 : decide (n < g.ak k) = false := decide_eq_false (by omega)
      have g3 : decide (((g.lst k).length : Int) < n) = false := decide_eq_false (by omega)
      have hak := hg.ak k
      obtain ⟨m, rfl⟩ : ∃ m : Nat, n = (m : Int) := ⟨n.toNat, by omega⟩
      rw [show ((m : Int)).toNat = m from rfl]
      have g3' : decide ((g.lst k).length < m) = false := decide_eq_false (by omega)
      have m0 : (0 : Int) ≤ (m : Int) := by omega
      have m1 : (m : Int) ≤ (c : Int) := by omega
      have HR := Aside.mk (x2.take m)
      have HLT : Aside (((g.lst k).take m).length = m) := ⟨by rw [List.length_take]; omega⟩
      have HL : Aside (((g.lst k).take m).length * 16 ≤ 140737488355328) := ⟨by have := hg.len k; rw [List.length_take]; omega⟩
      have HK1 : Aside (1 ≤ k) := ⟨by omega⟩
      have HC := Aside.mk q.2.2.2.1
      have HNE := Aside.mk h.ne.1
      have fz := h.hh.frozen
      clear e e2 hi x2 h h0 his hak hk
      go_enter Try.func50, Try.ntmps50
      go_wp2_with fail
      refine HI.out.mono ?_
      rw [HH.out]
      rintro e w1 ⟨rfl, rfl⟩
      go_wp2_with fail
      go_region_with (go_at_call 56
                      refine (cloneS A m c ((g.lst k).take m) _ _ (HR.out.below (below_drewN (Below.refl _ _) 1)) HLT.out HL.out).mono ?_
                      rintro e w1 ⟨v, rfl, ho, hb1⟩
                      have hbd := below_step (below_drewN (Below.refl _ _) 1) hb1
                      have hx := cell_below hbd HC.out
                      have x9 := cell_below hbd x0
                      have fz9 := (HA.out.hh.below hbd).frozen
                      have HB1 := Aside.mk hbd
                      have HO1 := Aside.mk ho
                      obtain ⟨X, d, rfl⟩ := Sl.form ho.sl
                      clear ho hb1 hbd)
      all_goals
        go_wp2_with fail
        go_ret
        exact ⟨rfl, HA.out.lay HB1.out HK1.out (by have h := HO1.out; rw [List.length_take] at h; exact h)⟩
end Go.Proofs.WK
