/-
  (*group.Group).Add, walked.
-/
import Derived.Test.YtljjiicjnoljbaaGrpA
import Derived.Deep.RegionLaw
namespace Go.Proofs.WK
open Go.RowKit Rp
variable {w : World} {G : Nat → Prop} {ga : Nat} {g : Grp}
set_option maxHeartbeats 8000000 in
set_option maxRecDepth 100000 in
theorem groupAdd (s : ByteArray) (h : GrpIs w G ga g) (hg : GrpOk g) : Calls Try.prog 43 #[.pointer (some ⟨ga, 0, none⟩), .string s] w fun e w' => e = .returned (.tuple #[.int .i64 (addN g), .int .i64 (addE g)]) ∧ Wrote w G ga (addG g s) w' := by
  have HG := Aside.mk h
  obtain ⟨hb, kb, vl, v0, hs, h⟩ := h
  obtain ⟨AL, cl, rfl, hcl, hrl⟩ := h.ol.sl
  obtain ⟨A0, c0, rfl, _, _⟩ := h.o0.sl
  have q := Bk.quad h.bk
  have hlen := hg.len 0
  by_cases h0 : (g.lst 0).length = 60
  · have e : addE g = 2 := if_pos h0
    have e2 : addG g s = g := by rw [addG, e, if_neg (by decide)]
    have e3 : addN g = 0 := by rw [addN, e, if_neg (by decide)]
    rw [e2, e, e3]
    have g1 : ((g.lst 0).length == 60) = true := by simp [h0]
    have g2 : (((g.lst 0).length : Int) == 60) = true := by simp [h0]
    clear h e e2 e3 h0 hcl hrl
    go_enter Try.func43, Try.ntmps43
    go_wp2_with fail
    go_ret2
    exact ⟨rfl, .same HG.out⟩
  · have e : addE g = 0 := if_neg h0
    have e2 : addG g s = ⟨g.has.set 0 (g.lst 0 ++ [s]), g.ack.set 0 (((g.lst 0).length + 1 : Nat) : Int)⟩ := by rw [addG, e]; exact if_pos rfl
    have e3 : addN g = (((g.lst 0).length + 1 : Nat) : Int) := by rw [addN, e]; exact if_pos rfl
    rw [e2, e, e3]
    have g1 : ((g.lst 0).length == 60) = false := by simp [h0]
    have g2 : (((g.lst 0).length : Int) == 60) = false := by simp; omega
    have HA := Aside.mk h
    have HLN : Aside (((g.lst 0).length + 1) * 16 ≤ 140737488355328) := ⟨by omega⟩
    have HGK := Aside.mk hg
    clear h e e2 e3 h0 hcl hrl hg hlen
    go_enter Try.func43, Try.ntmps43
    go_wp2_with (at_builtin
                 refine list_one (w0 := w.alloc (.cells #[.string s] 9)) str 0 rfl (.tmp 16) (.tmp 18) 22 9 (.string ByteArray.empty) 16 rfl Try.underlying22 infoStr rfl Nat.one_pos (Nat.succ_pos _) (.slice AL (g.lst 0).length cl) (g.lst 0) s [.string s] (fun _ => False) w.heap.size 1 rfl rfl (blk_new w _ _) rfl (HA.out.ol.below ((Below.refl _ _).alloc (Nat.le_refl _) _)) (Below.refl _ _) (Nat.zero_le _) HLN.out ?_
                 intro v1 w1 hO1 _ hg1 hat1
                 have hga : w1.heap[ga]? = w.heap[ga]? := (hg1.block ga (by have := HA.out.bk.lt; simp; omega) (fun e => (HA.out.ne.2.2.2.1 ga e.symm).1 rfl)).trans ((Below.alloc (Below.refl _ w) (Nat.le_refl _) _).block ga HA.out.bk.lt)
                 have qg := Bk.quad (HA.out.bk.movedBy' hga)
                 have hL1 := ((HA.out.move fun k _ hl => (Below.alloc (Below.refl _ w) (Nat.le_refl _) (.cells #[.string s] 9)).block k hl).setLog hg1 hO1 hat1)
                 obtain ⟨X1, d1, rfl⟩ := Sl.form hO1.sl
                 rw [show (g.lst 0 ++ [s]).length = (g.lst 0).length + 1 by simp] at hL1 ⊢
                 have HL1 := Aside.mk hL1
                 have HG1 := Aside.mk hg1
                 clear hO1 hg1 hat1 hL1 hga)
    generalize hW2 : w1.setCell ⟨ga, 1, none⟩ (.slice X1 ((g.lst 0).length + 1) d1) = W2 at *
    have HC : Aside (W2.cell? ⟨ga, 2, none⟩ = some (.slice (some ⟨hb, 0, none⟩) g.has.length g.has.length)) := ⟨HL1.out.bk.cell 2⟩
    have hpos : 0 < g.has.length := by have := HGK.out.many; omega
    have p1 : (0 : Int) < (g.has.length : Int) := by omega
    have z0 : W2.cell? ⟨hb, 0, none⟩ = some (.slice A0 (g.lst 0).length c0) := by rw [HL1.out.hh.cell]; exact HL1.out.h0
    have fz := HL1.out.hh.frozen
    have z0' : (W2.alloc (.cells #[.string s] 9)).cell? ⟨hb, 0, none⟩ = some (.slice A0 (g.lst 0).length c0) := cell_below (Below.alloc (Below.refl _ W2) (Nat.le_refl _) _) z0
    have HNE := Aside.mk HL1.out.ne.1
    clear qg q
    have hc2 := HC.out
    have hc3 := cell_below (Below.alloc (Below.refl _ W2) (Nat.le_refl _) (.cells #[.string s] 9)) HC.out
    go_region_law
      (refine step_one (w0 := _) str 0 rfl (.tmp 31) (.tmp 33) 22 9 (.string ByteArray.empty) 16 rfl Try.underlying22 infoStr rfl Nat.one_pos (Nat.succ_pos _) (.slice A0 (g.lst 0).length c0) (g.lst 0) s [.string s] (fun _ => False) W2.heap.size 1 rfl rfl (blk_new W2 _ _) rfl ((HL1.out.o0.below (Below.alloc (Below.refl _ W2) (Nat.le_refl _) (.cells #[.string s] 9))).below (below_drewN (Below.refl _ _) 1)) (Below.refl _ _) (Nat.zero_le _) HLN.out ?_
       intro v2 w3 hO2 _ hg2 hat2
       have hga2 : w3.heap[ga]? = W2.heap[ga]? := (hg2.block ga (by have := HL1.out.bk.lt; simp [World.drew]; omega) (fun e => (HL1.out.ne.2.2.2.2 ga e.symm).1 rfl)).trans ((Below.alloc (Below.refl _ W2) (Nat.le_refl _) _).block ga HL1.out.bk.lt)
       have hx3 : w3.cell? ⟨ga, 2, none⟩ = some (.slice (some ⟨hb, 0, none⟩) g.has.length g.has.length) := (HL1.out.bk.movedBy' hga2).cell 2
       have hhb2 : w3.heap[hb]? = W2.heap[hb]? := (hg2.block hb (by have := HL1.out.hh.lt; simp [World.drew]; omega) (fun e => (HL1.out.ne.2.2.2.2 hb e.symm).2.1 rfl)).trans ((Below.alloc (Below.refl _ W2) (Nat.le_refl _) _).block hb HL1.out.hh.lt)
       have fz3 := (HL1.out.hh.movedBy' hhb2).frozen
       have z3 : w3.cell? ⟨hb, 0, none⟩ = some (.slice A0 (g.lst 0).length c0) := by rw [(HL1.out.hh.movedBy' hhb2).cell]; exact HL1.out.h0
       have HL3 := Aside.mk (((HL1.out.move fun k _ hl => (below_drewN (Below.alloc (Below.refl _ W2) (Nat.le_refl _) (.cells #[.string s] 9)) 1).block k hl)).setFirst hpos hg2 hO2 hat2)
       obtain ⟨X3, d3, rfl⟩ := Sl.form hO2.sl
       have HG3 := Aside.mk hg2
       clear hO2 hg2 hat2 hga2 hhb2)
    all_goals
      have HCH : Aside (Chg G w (w3.setCell ⟨hb, 0, none⟩ (.slice X3 (g.lst 0 ++ [s]).length d3))) := ⟨by
        have c1 : Chg G w w1 := (Chg.of_below (S := G) (Below.alloc (Below.refl _ w) (Nat.le_refl _) _)).trans (Chg.of_grown (S := G) HG1.out fun k e => HA.out.inG.2.2.2.1 k e) fun _ _ h => h
        have c2 : Chg G w W2 := by rw [← hW2]; exact c1.trans (chg_set G w1 ga 1 _ HA.out.inG.1) fun _ _ h => h
        have c3 : Chg G w w3 := (c2.trans (Chg.of_below (S := G) (below_drewN (Below.alloc (Below.refl _ W2) (Nat.le_refl _) _) 1)) fun _ _ h => h).trans (Chg.of_grown (S := G) HG3.out fun k e => HA.out.inG.2.2.2.2 k e) fun _ _ h => h
        exact c3.trans (chg_set G w3 hb 0 _ HA.out.inG.2.1) fun _ _ h => h⟩
      have HSZ : Aside (w.heap.size ≤ (w.alloc (.cells #[.string s] 9)).heap.size ∧ w1.heap.size ≤ w3.heap.size ∧ w.heap.size ≤ ((W2.alloc (.cells #[.string s] 9)).drewN 1).heap.size ∧ w3.heap.size = (w3.setCell ⟨hb, 0, none⟩ (.slice X3 (g.lst 0 ++ [s]).length d3)).heap.size) := ⟨by
        have s1 := HG1.out.size
        have s2 := HG3.out.size
        have s3 : W2.heap.size = w1.heap.size := by rw [← hW2]; exact setCell_size _ _ _
        simp [World.drew] at s1 s2
        refine ⟨by simp, by omega, by simp [World.drewN]; omega, (setCell_size _ _ _).symm⟩⟩
      have hL3 := HL3.out
      clear HL3 HL1 HG1 HG3 HC
      rw [show (g.lst 0 ++ [s]).length = (g.lst 0).length + 1 by simp] at hL3 HCH HSZ
      generalize hW4 : w3.setCell ⟨hb, 0, none⟩ (.slice X3 ((g.lst 0).length + 1) d3) = W4 at *
      have qg := Bk.quad hL3.bk
      dsimp only at qg
      rw [List.length_set] at qg
      have hpk : 0 < g.ack.length := by rw [HGK.out.ack]; exact hpos
      have y0 := ack_at hL3.kk (i := 0) hpk
      have fzk := hL3.kk.frozen
      have HL3 := Aside.mk hL3
      have HK : Aside (((g.lst 0).length : Int) + 1 = (((g.lst 0).length + 1 : Nat) : Int)) := ⟨by simp⟩
      clear hL3 hx3 fz3 z3 fz z0 z0' hW4 hW2 hpk hc2 hc3
      go_wp2_with fail
      go_region
      go_wp2_with fail
      all_goals
        go_ret2
        have hz : ((W4.setCell ⟨kb, 0, none⟩ (.int .i64 (((g.lst 0).length : Int) + 1))).drew).heap.size = W4.heap.size := setCell_size _ _ _
        rw [HK.out] at hz ⊢
        have h1 := (HL3.out.setAck 0 (((g.lst 0).length + 1 : Nat) : Int)).move (w' := (W4.setCell ⟨kb, 0, none⟩ (.int .i64 (((g.lst 0).length + 1 : Nat) : Int))).drew) fun _ _ _ => rfl
        have h2 : GrpIs _ _ ga (Grp.mk (g.has.set 0 (g.lst 0 ++ [s])) (g.ack.set 0 (((g.lst 0).length + 1 : Nat) : Int))) := ⟨hb, kb, _, _, _, by
          rw [show (Grp.mk (g.has.set 0 (g.lst 0 ++ [s])) (g.ack.set 0 (((g.lst 0).length + 1 : Nat) : Int))).lst 0 = g.lst 0 ++ [s] by rw [lst_set, if_pos ⟨rfl, hpos⟩]]
          exact h1⟩
        refine ⟨rfl, _, h2, (HCH.out.trans (chg_set G W4 kb 0 _ HA.out.inG.2.2.1) fun _ _ h => h).trans (Chg.of_below (S := G) (below_drewN (Below.refl _ _) 1)) fun _ _ h => h, fun j hj => ?_⟩
        rw [hz]
        have h4 := HSZ.out
        rcases hj with (hj | hj) | hj
        · exact .inl hj
        · exact .inr (by omega)
        · exact .inr (by omega)
end Go.Proofs.WK
