/-
  (*group.Group).Sure, New.
-/
import Derived.Test.YtljjiicjnoljbaaRGrpS
import Derived.Test.YtljjiicjnoljbaaSrtI
namespace Go.Proofs.WK
open Go.RowKit Rp
variable {w w1 : World} {G G' : Nat → Prop} {ga : Nat} {g : Grp}
set_option maxRecDepth 100000 in
theorem valsC (a : Option Addr) (n c : Nat) (w : World) : Calls Try.prog 93 #[.slice a n c] w fun e w' => e = .returned (.func (.func 115) #[] #[.pointer (some ⟨w.heap.size, 0, none⟩)]) ∧ w' = w.alloc (.cells #[.slice a n c] 39) := by
  go_enter Try.func93, Try.ntmps93
  go_wp2_with fail
  go_ret
  exact ⟨rfl, rfl⟩
set_option maxRecDepth 100000 in
set_option maxHeartbeats 1000000 in
theorem groupSure (h : GrpIs w G ga g) (hg : GrpOk g) : Calls Try.prog 52 #[.pointer (some ⟨ga, 0, none⟩)] w fun e w' => e = .returned (.int .i64 (sureV g)) ∧ Below w.heap.size w w' := by
  obtain ⟨hb, kb, vl, v0, hs, h⟩ := h
  have q := Bk.quad h.bk
  have hm := hg.many
  have ha := hg.ack
  have hkl := h.kk.lt
  have hc : ∀ j, j < g.ack.length → w.cell? ⟨kb, j, none⟩ = some (.int .i64 (g.ack[j]?.getD 0)) := fun j hj => ack_at h.kk hj
  have hb1 : Below w.heap.size w (w.alloc (.cells #[.slice (some ⟨kb, 0, none⟩) g.has.length g.has.length] 39)) := (Below.refl _ _).alloc (Nat.le_refl _) _
  have hS := sortedI w.heap.size kb g.has.length g.ack (by intro e; rw [e] at ha; simp at ha; omega) (by omega) (w.alloc (.cells #[.slice (some ⟨kb, 0, none⟩) g.has.length g.has.length] 39)) (by simp; omega) (by simp) (by rw [ha]; exact (Bk.made w [_] _).cell 0) (fun j hj => cell_below hb1 (hc j hj))
  rw [ha] at hS
  have HS := Aside.mk hS
  have HB1 := Aside.mk hb1
  obtain ⟨m, hm2⟩ : ∃ m : Nat, m = (g.has.length - 1) / 2 := ⟨_, rfl⟩
  have HV : Aside (sureV g = (sortI g.ack)[m]?.getD 0) := ⟨by rw [hm2]; rfl⟩
  rw [HV.out]
  have e1 : IntKind.i64.wrap ((g.has.length : Int) - 1) = (g.has.length : Int) - 1 := by rw [IntKind.wrap_i64]; omega
  have e2 : ((g.has.length : Int) - 1).tdiv 2 = (m : Int) := by rw [Int.tdiv_eq_ediv_of_nonneg (by omega)]; omega
  have m0 : (0 : Int) ≤ (m : Int) := by omega
  have m1 : (m : Int) < (g.has.length : Int) := by omega
  have l0 : (0 : Int) ≤ (g.has.length : Int) := by omega
  have l5 : (g.has.length : Int) ≤ 5 := by omega
  have HM : Aside (m < g.has.length) := ⟨by omega⟩
  have HK := Aside.mk h.bk
  clear h hS hb1 hc hg hm ha hm2
  go_enter Try.func52, Try.ntmps52
  go_wp2_with (go_at_call 93; refine (valsC _ _ _ _).mono ?_; rintro e w' ⟨rfl, rfl⟩)
  refine HS.out.mono ?_
  rintro e w1 ⟨gb, c, rfl, h1, h2⟩
  have hbd := HB1.out.trans (h2.mono HB1.out.size)
  have qg := Bk.quad (HK.out.below hbd)
  have y0 := h1 m HM.out
  have HB := Aside.mk hbd
  clear h1 h2 hbd q
  go_wp2_with fail
  go_ret
  exact ⟨rfl, HB.out⟩
def grp0 (n : Nat) : Grp := ⟨List.replicate n [], List.replicate n 0⟩
theorem lst0 (n i : Nat) : (grp0 n).lst i = [] := by
  unfold Grp.lst grp0
  by_cases h : i < n
  · rw [List.getElem?_eq_getElem (by simpa using h)]; simp
  · rw [List.getElem?_eq_none (by simpa using Nat.le_of_not_lt h)]; rfl
theorem grp0_ok {n : Nat} (h1 : 1 ≤ n) (h5 : n ≤ 5) : GrpOk (grp0 n) := by
  refine ⟨by simp [grp0]; omega, by simp [grp0], fun i => by rw [lst0]; simp, fun i => ?_, ?_⟩
  · unfold Grp.ak grp0
    by_cases h : i < n
    · rw [List.getElem?_eq_getElem (by simpa using h)]; simp
    · rw [List.getElem?_eq_none (by simpa using Nat.le_of_not_lt h)]; simp
  · rw [lst0]
    unfold Grp.ak grp0
    rw [List.getElem?_eq_getElem (by simp; omega)]
    simp
theorem made_one (z : Value) (n : Nat) : madeCells #[z] n = (List.replicate n z).toArray := by
  apply Array.ext
  · simp [madeCells]
  · intro i h1 h2
    simp [madeCells, Nat.mod_one]
theorem infoSS : (Try.prog.info? 22).map (fun i => (i.zero, i.size, i.bytes)) = some (some (.slice none 0 0), 1, 24) := by kernel_rfl
theorem three_made (w : World) (c1 c2 c3 : List Value) (t1 t2 t3 : TypeId) : Bk ((((w.alloc (.cells c1.toArray t1)).alloc (.cells c2.toArray t2)).alloc (.cells c3.toArray t3)).drewN 1) w.heap.size c1 ∧
    Bk ((((w.alloc (.cells c1.toArray t1)).alloc (.cells c2.toArray t2)).alloc (.cells c3.toArray t3)).drewN 1) (w.heap.size + 1) c2 ∧ Bk ((((w.alloc (.cells c1.toArray t1)).alloc (.cells c2.toArray t2)).alloc (.cells c3.toArray t3)).drewN 1) (w.heap.size + 1 + 1) c3 ∧
    Below w.heap.size w ((((w.alloc (.cells c1.toArray t1)).alloc (.cells c2.toArray t2)).alloc (.cells c3.toArray t3)).drewN 1) ∧ ((((w.alloc (.cells c1.toArray t1)).alloc (.cells c2.toArray t2)).alloc (.cells c3.toArray t3)).drewN 1).heap.size = w.heap.size + 1 + 1 + 1 := by
  have s1 : (w.alloc (.cells c1.toArray t1)).heap.size = w.heap.size + 1 := by simp
  have s2 : ((w.alloc (.cells c1.toArray t1)).alloc (.cells c2.toArray t2)).heap.size = w.heap.size + 1 + 1 := by simp
  have b1 := Bk.made w c1 t1
  have b2 := Bk.made (w.alloc (.cells c1.toArray t1)) c2 t2
  have b3 := Bk.made ((w.alloc (.cells c1.toArray t1)).alloc (.cells c2.toArray t2)) c3 t3
  rw [s1] at b2
  rw [s2] at b3
  exact ⟨((b1.alloc _).alloc _).drewN 1, (b2.alloc _).drewN 1, b3.drewN 1, below_drewN ((((Below.refl _ w).alloc (Nat.le_refl _) _).alloc (by omega) _).alloc (by omega) _) 1, by simp [World.drewN]⟩
theorem grp0_is {W : World} {ga hb kb n : Nat} (h1 : Bk W ga [.int .i64 n, .slice none 0 0, .slice (some ⟨hb, 0, none⟩) n n, .slice (some ⟨kb, 0, none⟩) n n]) (h2 : Bk W hb (List.replicate n (.slice none 0 0))) (h3 : Bk W kb (List.replicate n (.int .i64 0))) (hp : 1 ≤ n) (hne : ga ≠ hb ∧ ga ≠ kb ∧ hb ≠ kb) :
    GrpIs W (fun j => j = ga ∨ j = hb ∨ j = kb) ga (grp0 n) := by
  have hl : (grp0 n).has.length = n := by simp [grp0]
  refine ⟨hb, kb, .slice none 0 0, .slice none 0 0, List.replicate n (.slice none 0 0), ⟨by rw [hl]; exact h1, by rw [show (grp0 n).ack.map (Value.int .i64) = List.replicate n (.int .i64 0) by simp [grp0]]; exact h3, h2, by rw [hl]; simp, by rw [List.getElem?_replicate, if_pos (by omega)], by rw [lst0]; exact Own.nil _ _ _ _ _, by rw [lst0]; exact Own.nil _ _ _ _ _, fun i v _ hv => ?_, ⟨.inl rfl, .inr (.inl rfl), .inr (.inr rfl), fun k hk => by simp [Value.ownBlock] at hk, fun k hk => by simp [Value.ownBlock] at hk⟩, ⟨hne.1, hne.2.1, hne.2.2, fun k hk => by simp [Value.ownBlock] at hk, fun k hk => by simp [Value.ownBlock] at hk⟩⟩⟩
  rw [List.getElem?_replicate] at hv
  split at hv
  · injection hv with hv
    subst hv
    rw [lst0]
    exact Sl.nil _ _ _
  · cases hv
set_option maxRecDepth 100000 in
set_option maxHeartbeats 1000000 in
theorem groupNew (n : Nat) (h1 : 1 ≤ n) (h5 : n ≤ 5) (w : World) : Calls Try.prog 39 #[.int .i64 n] w fun e w' => ∃ ga G, e = .returned (.tuple #[.pointer (some ⟨ga, 0, none⟩), .int .i64 0]) ∧ GrpIs w' G ga (grp0 n) ∧ (∀ j, G j → w.heap.size ≤ j ∧ j < w'.heap.size) ∧ Below w.heap.size w w' := by
  have n0 : (0 : Int) ≤ (n : Int) := by omega
  have g1 : decide ((n : Int) < 1) = false := decide_eq_false (by omega)
  have g2 : decide (5 < (n : Int)) = false := decide_eq_false (by omega)
  have hmk1 := run_make_row' (P := Try.prog) 83 22 (.slice none 0 0) 24 Try.underlying83 infoSS rfl .i64 .i64 n (by omega) (by omega)
  have hmk2 := run_make_row' (P := Try.prog) 39 3 (.int .i64 0) 8 Try.underlying39 infoI rfl .i64 .i64 n (by omega) (by omega)
  go_enter Try.func39, Try.ntmps39
  go_wp2_with fail
  go_region
  all_goals go_wp2_with fail
  all_goals go_ret2
  all_goals rw [made_one, made_one]
  · obtain ⟨b1, b2, b3, b4, b5⟩ := three_made w (List.replicate n (.slice none 0 0)) (List.replicate n (.int .i64 0)) [.int .i64 n, .slice none 0 0, .slice (some ⟨w.heap.size, 0, none⟩) n n, .slice (some ⟨w.heap.size + 1, 0, none⟩) n n] 22 3 135
    exact ⟨_, _, rfl, grp0_is b3 b1 b2 h1 (by omega), fun j hj => ⟨by omega, Nat.lt_of_lt_of_eq (show j < w.heap.size + 1 + 1 + 1 by omega) b5.symm⟩, b4⟩
  · obtain ⟨b1, b2, b3, b4, b5⟩ := three_made w (List.replicate n (.int .i64 0)) (List.replicate n (.slice none 0 0)) [.int .i64 n, .slice none 0 0, .slice (some ⟨w.heap.size + 1, 0, none⟩) n n, .slice (some ⟨w.heap.size, 0, none⟩) n n] 3 22 135
    exact ⟨_, _, rfl, grp0_is b3 b2 b1 h1 (by omega), fun j hj => ⟨by omega, Nat.lt_of_lt_of_eq (show j < w.heap.size + 1 + 1 + 1 by omega) b5.symm⟩, b4⟩
set_option maxRecDepth 100000 in
theorem groupNewBad (n : Int) (h : n < 1 ∨ 5 < n) (w : World) : Calls Try.prog 39 #[.int .i64 n] w fun e w' => e = .returned (.tuple #[.pointer none, .int .i64 1]) ∧ w = w' := by
  by_cases h1 : n < 1
  · have g1 : decide (n < 1) = true := decide_eq_true h1
    go_enter Try.func39, Try.ntmps39
    go_wp2_with fail
    go_ret2
    exact ⟨rfl, rfl⟩
  · have g1 : decide (n < 1) = false := decide_eq_false h1
    have g2 : decide (5 < n) = true := decide_eq_true (by omega)
    clear h h1
    go_enter Try.func39, Try.ntmps39
    go_wp2_with fail
    go_ret2
    exact ⟨rfl, rfl⟩
end Go.Proofs.WK
