/-
  (*wyref.Group).Add.
-/
import Derived.Test.YtljjiicjnoljbaaRGrpT
import Derived.Test.YtljjiicjnoljbaaConcatS
import Derived.Deep.RegionWith
namespace Go.Proofs.WK
open Go.RowKit Rp
variable {w w1 : World} {G G' : Nat → Prop} {gm hm km : Nat} {g : Grp} {hs : List Value}
/-- Two rows, laid side by side in a new block. -/
theorem two_rows {α : Type} {d : Rp α} {W : World} {ok : Nat → Prop} {v1 v2 : Value} {a b : List α} (t : TypeId) (h1 : d.Sl W ok v1 a) (h2 : d.Sl W ok v2 b) : (slice d).Row (W.alloc (.cells #[v1, v2] t)) (fun k => ok k ∨ k = W.heap.size) (some ⟨W.heap.size, 0, none⟩) [a, b] := by
  refine ⟨by simp, fun j p hp => ⟨⟨W.heap.size, 0, none⟩, rfl, .inr rfl, by simp, ?_⟩⟩
  have hc : ∀ o, (W.alloc (.cells #[v1, v2] t)).cell? ⟨W.heap.size, o, none⟩ = [v1, v2][o]? := fun o => (Bk.made W [v1, v2] t).cell o
  have mv : ∀ {v x}, d.Sl W ok v x → d.Sl (W.alloc (.cells #[v1, v2] t)) (fun k => ok k ∨ k = W.heap.size) v x := fun h => (h.below ((Below.refl _ _).alloc (Nat.le_refl _) _)).mono fun k hk _ => .inl hk
  match j, hp with
  | 0, hp =>
    obtain rfl : a = p := by simpa using hp
    refine ⟨[v1], ⟨v1, rfl, mv h1⟩, fun i u hu => ?_⟩
    match i, hu with
    | 0, hu => rw [add_plain, hc]; exact hu
  | 1, hp =>
    obtain rfl : b = p := by simpa using hp
    refine ⟨[v2], ⟨v2, rfl, mv h2⟩, fun i u hu => ?_⟩
    match i, hu with
    | 0, hu => rw [add_plain, hc]; exact hu
set_option maxHeartbeats 8000000 in
set_option maxRecDepth 100000 in
theorem refAdd (s : ByteArray) (h : RGrpIs w G gm g) (hg : GrpOk g) : Calls Try.prog 44 #[.pointer (some ⟨gm, 0, none⟩), .string s] w fun e w' => e = .returned (.tuple #[.int .i64 (addN g), .int .i64 (addE g)]) ∧ RWrote w G gm (addG g s) w' := by
  have HG := Aside.mk h
  obtain ⟨hm, km, hs, h⟩ := h
  have q := Bk.two h.bk
  have hpos : 0 < g.has.length := by have := hg.many; omega
  have p1 : (0 : Int) < (g.has.length : Int) := by omega
  have hlt : 0 < hs.length := by rw [h.hl]; exact hpos
  have x0 : w.cell? ⟨hm, 0, none⟩ = some hs[0] := by rw [h.hh.cell, List.getElem?_eq_getElem hlt]
  have hsl := h.sl 0 hs[0] (List.getElem?_eq_getElem hlt)
  generalize hs[0] = u at x0 hsl
  obtain ⟨A, c, rfl⟩ := Sl.form hsl
  have hlen := hg.len 0
  have HA := Aside.mk h
  by_cases h0 : (g.lst 0).length = 60
  · have e : addE g = 2 := if_pos h0
    have e2 : addG g s = g := by rw [addG, e, if_neg (by decide)]
    have e3 : addN g = 0 := by rw [addN, e, if_neg (by decide)]
    rw [e2, e, e3]
    have g1 : decide (59 < (g.lst 0).length) = true := by simp [h0]
    have g2 : decide (59 < ((g.lst 0).length : Int)) = true := by simp [h0]
    clear h e e2 e3 h0 hsl hlen hg
    go_enter Try.func44, Try.ntmps44
    go_wp2_with fail
    go_ret2
    exact ⟨rfl, .same HG.out⟩
  · have e : addE g = 0 := if_neg h0
    have e2 : addG g s = ⟨g.has.set 0 (g.lst 0 ++ [s]), g.ack.set 0 (((g.lst 0).length + 1 : Nat) : Int)⟩ := by rw [addG, e]; exact if_pos rfl
    have e3 : addN g = (((g.lst 0).length + 1 : Nat) : Int) := by rw [addN, e]; exact if_pos rfl
    rw [e2, e, e3]
    have g1 : decide (59 < (g.lst 0).length) = false := decide_eq_false (by omega)
    have g2 : decide (59 < ((g.lst 0).length : Int)) = false := decide_eq_false (by omega)
    have HS0 := Aside.mk hsl
    have HGK := Aside.mk hg
    have HC := Aside.mk q.2.1
    have HX := Aside.mk x0
    have HNE := Aside.mk h.ne.1
    have HSU : Aside (0 < sumS [g.lst 0, [s]] ∧ sumS [g.lst 0, [s]] ≤ 6000) := ⟨by simp [sumS]; omega⟩
    have HFL : Aside ([g.lst 0, [s]].flatten = g.lst 0 ++ [s]) := ⟨by simp⟩
    have hb1 : Below w.heap.size w (w.alloc (.cells #[.string s] 9)) := (Below.refl _ w).alloc (Nat.le_refl _) _
    have hl1 : str.Sl (w.alloc (.cells #[.string s] 9)) (fun k => False ∨ (Value.slice (some ⟨w.heap.size, 0, none⟩) 1 1).ownBlock = some k) (.slice (some ⟨w.heap.size, 0, none⟩) 1 1) [s] := (Own.lit str 9 w w.heap.size (fun _ => False) (Nat.le_refl _) (xs := [s]) (reps_str w (fun _ => False) [s]) (by simp)).sl
    have HROW : Aside ((slice str).Row (((w.alloc (.cells #[.string s] 9)).alloc (.cells #[.slice A (g.lst 0).length c, .slice (some ⟨w.heap.size, 0, none⟩) 1 1] 22)).drewN 1) (fun _ => True) (some ⟨w.heap.size + 1, 0, none⟩) [g.lst 0, [s]]) := ⟨by
      have h1 := two_rows 22 ((hsl.below hb1).mono (ok' := fun _ => True) fun _ _ _ => trivial) (hl1.mono (ok' := fun _ => True) fun _ _ _ => trivial)
      rw [show (w.alloc (.cells #[.string s] 9)).heap.size = w.heap.size + 1 by simp] at h1
      exact (h1.mono fun _ _ _ => trivial).below (below_drewN (Below.refl _ _) 1)⟩
    have HB2 : Aside (Below w.heap.size w (((w.alloc (.cells #[.string s] 9)).alloc (.cells #[.slice A (g.lst 0).length c, .slice (some ⟨w.heap.size, 0, none⟩) 1 1] 22)).drewN 1)) := ⟨below_drewN (hb1.alloc hb1.size _) 1⟩
    have HB1 : Aside (Below w.heap.size w ((w.alloc (.cells #[.string s] 9)).drewN 1)) := ⟨below_drewN hb1 1⟩
    have x1 := cell_below hb1 x0
    clear h e e2 e3 h0 hsl hlen hg hb1 hl1
    go_enter Try.func44, Try.ntmps44
    go_wp2_with fail
    have c1 := cell_below HB1.out HC.out
    have c2 := cell_below HB2.out HC.out
    have x2 := cell_below HB2.out HX.out
    go_region_with (go_at_call 90
                    refine (concatS _ 2 2 [g.lst 0, [s]] (fun _ => True) _ HROW.out rfl HSU.out.1 HSU.out.2 (by decide)).mono ?_
                    rw [HFL.out]
                    rintro e w1 ⟨v, rfl, ho, hb⟩
                    have hbd := HB2.out.trans (hb.mono HB2.out.size)
                    have hx := cell_below hbd HC.out
                    have hx0 := cell_below hbd HX.out
                    have fz9 := (HA.out.hh.below hbd).frozen
                    have HB3 := Aside.mk hbd
                    have HO3 : Aside (str.Own 9 w1 w.heap.size (fun _ => False) v (g.lst 0 ++ [s])) := ⟨by
                      obtain ⟨inner, ho1, ho2⟩ := ho
                      exact ⟨inner, ⟨ho1.1, ho1.2.imp id fun ⟨g, cap, cur, hv, hbg, rest⟩ => ⟨g, cap, cur, hv, Nat.le_trans HB2.out.size hbg, rest⟩⟩, ⟨ho2.1, fun j p hp => ho2.2 j p hp⟩⟩⟩
                    obtain ⟨X, dd, rfl⟩ := Sl.form ho.sl
                    clear ho hb hbd)
    all_goals
      obtain ⟨hL, hCH⟩ := HA.out.layAt HB3.out 0 (HO3.out.sl.mono fun j hj hl => hj.elim False.elim fun hj => .inr (HO3.out.lt j hj).1)
      have hz : (w1.setCell ⟨hm, 0, none⟩ (.slice X (g.lst 0 ++ [s]).length dd)).heap.size = w1.heap.size := setCell_size _ _ _
      rw [show (g.lst 0 ++ [s]).length = (g.lst 0).length + 1 by simp] at hL hCH hz
      generalize hW5 : w1.setCell ⟨hm, 0, none⟩ (.slice X ((g.lst 0).length + 1) dd) = W5 at *
      have qg := Bk.two hL.bk
      dsimp only at qg
      rw [List.length_set] at qg
      have hpk : 0 < g.ack.length := by rw [HGK.out.ack]; exact hpos
      have y0 := ack_at hL.kk (i := 0) hpk
      rw [show g.ack[0]?.getD 0 = ((g.lst 0).length : Int) from HGK.out.first] at y0
      have fzk := hL.kk.frozen
      have l0 : (0 : Int) ≤ ((g.lst 0).length : Int) := by omega
      have l1 : ((g.lst 0).length : Int) ≤ 60 := by have := HGK.out.len 0; omega
      have HL := Aside.mk hL
      have HCH := Aside.mk hCH
      have HZ := Aside.mk hz
      have HK : Aside (((g.lst 0).length : Int) + 1 = (((g.lst 0).length + 1 : Nat) : Int)) := ⟨by simp⟩
      clear hL hCH hz q x0 x1 hx0 fz9 hW5 hpk c1 c2 x2
      go_wp2_with fail
      go_ret2
      have h1 := HL.out.setAck 0 (((g.lst 0).length + 1 : Nat) : Int)
      have h2 := (HCH.out.trans (chg_set G W5 km 0 (.int .i64 (((g.lst 0).length + 1 : Nat) : Int)) HA.out.inG.2.2) fun _ _ h => h)
      rw [← HK.out] at h1 h2 ⊢
      exact ⟨rfl, _, ⟨hm, km, _, h1⟩, h2, fun j hj => by rw [setCell_size, HZ.out]; exact hj⟩
end Go.Proofs.WK
