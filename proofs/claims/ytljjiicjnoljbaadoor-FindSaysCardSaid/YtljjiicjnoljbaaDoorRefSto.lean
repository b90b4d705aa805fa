/-
  wyref.Store (P21).
-/
import Derived.Test.YtljjiicjnoljbaaDoorRefRec
import Derived.Test.YtljjiicjnoljbaaDoorStoK
import Derived.Deep.RegionHeld3
namespace Go.Proofs.WK
open Go.RowKit Rp
/-- The boxes of a version and of its record. -/
abbrev Kb (w : World) (n m : Nat) (v : Ver) (A1 A2 : Option Addr) (c1 c2 : Nat) : Prop :=
  w.cell? { block := n, off := 4 } = some (.bool v.gone) ∧ w.cell? { block := m, off := 0 } = some (.string v.r.id) ∧ w.cell? { block := m, off := 1 } = some (.int .i64 v.r.cats) ∧
  w.cell? { block := m, off := 2 } = some (.slice A1 v.r.fields.length c1) ∧ w.cell? { block := m, off := 3 } = some (.slice A2 v.r.refs.length c2) ∧ Aside (Bk w n (verC v A1 A2 c1 c2) ∧ Bk w m (recC v.r A1 A2 c1 c2))
theorem Kb.of {w : World} {n m : Nat} {v : Ver} {A1 A2 : Option Addr} {c1 c2 : Nat} (h : Bk w n (verC v A1 A2 c1 c2)) (h' : Bk w m (recC v.r A1 A2 c1 c2)) : Kb w n m v A1 A2 c1 c2 := ⟨h.cell 4, h'.cell 0, h'.cell 1, h'.cell 2, h'.cell 3, ⟨h, h'⟩⟩
theorem Kb.al {w : World} {n m : Nat} {v : Ver} {A1 A2 : Option Addr} {c1 c2 : Nat} (h : Kb w n m v A1 A2 c1 c2) : Bk w n (verC v A1 A2 c1 c2) ∧ Bk w m (recC v.r A1 A2 c1 c2) := h.2.2.2.2.2.out
theorem Kb.step {w w' : World} {n m : Nat} {v : Ver} {A1 A2 : Option Addr} {c1 c2 : Nat} (h : Kb w n m v A1 A2 c1 c2) (hb : Below w.heap.size w w') : Kb w' n m v A1 A2 c1 c2 := .of (h.al.1.below hb) (h.al.2.below hb)
/-- Four ways of what is gone, as the reference asks. -/
theorem gone_ways2 (l : List Ver) (v : Ver) (k : Nat) (hk : k ≤ l.length) :
    (v.gone = false ∧ Aside (goneBad l v k = false)) ∨ ((v.gone = true ∧ decide ((0 : Int) < (v.r.fields.length : Int) + (v.r.refs.length : Int)) = true) ∧ Aside (goneBad l v k = true)) ∨
    ((v.gone = true ∧ decide ((0 : Int) < (v.r.fields.length : Int) + (v.r.refs.length : Int)) = false ∧ decide (livesI (l.take k) v.r.id v.r.cats < 0) = true) ∧ Aside (goneBad l v k = true)) ∨
    ((v.gone = true ∧ decide ((0 : Int) < (v.r.fields.length : Int) + (v.r.refs.length : Int)) = false ∧ decide (livesI (l.take k) v.r.id v.r.cats < 0) = false) ∧ Aside (goneBad l v k = false)) := by
  unfold goneBad
  rw [livesI_take hk]
  cases hg : v.gone
  · exact .inl ⟨rfl, ⟨rfl⟩⟩
  · by_cases h1 : (0 : Int) < (v.r.fields.length : Int) + (v.r.refs.length : Int)
    · refine .inr (.inl ⟨⟨rfl, decide_eq_true h1⟩, ⟨?_⟩⟩)
      by_cases h2 : 0 < v.r.fields.length
      · rw [decide_eq_true h2]; rfl
      · rw [decide_eq_true (by omega : 0 < v.r.refs.length)]; simp
    · rw [decide_eq_false (by omega : ¬ 0 < v.r.fields.length), decide_eq_false (by omega : ¬ 0 < v.r.refs.length), decide_eq_false h1]
      cases decide (livesK l v.r.id v.r.cats k < 0)
      · exact .inr (.inr (.inr ⟨⟨rfl, rfl, rfl⟩, ⟨rfl⟩⟩))
      · exact .inr (.inr (.inl ⟨⟨rfl, rfl, rfl⟩, ⟨rfl⟩⟩))
def StoWf (l : List Ver) : Prop := ∀ v ∈ l, RecWf v.r
set_option maxHeartbeats 4000000 in
set_option maxRecDepth 100000 in
theorem refStore (A : Option Addr) (c : Nat) (l : List Ver) (ok : Nat → Prop) (hwf : StoWf l) (w : World) (hr : verR.Row w ok A l) (hc : l.length ≤ c) :
    Calls Tryd.prog 20 #[.slice A l.length c] w fun e w' => e = .returned (.int .i64 (storeErr l)) ∧ Below w.heap.size w w' := by
  have hm := hr.1
  have HR := Aside.mk hr
  have HWF := Aside.mk hwf
  clear hr hwf
  by_cases h5 : 5120 < l.length
  · have H := Aside.mk (show storeErr l = 2 from if_pos h5)
    have g5 : decide ((5120 : Int) < (l.length : Int)) = true := by simp; omega
    clear h5
    go_enter Tryd.func20, Tryd.ntmps20
    go_wp2_with fail
    go_ret
    exact ⟨by rw [H.out]; rfl, Below.refl _ _⟩
  · have H5 := Aside.mk h5
    have g5 : decide ((5120 : Int) < (l.length : Int)) = false := by simp; omega
    have hlen : l.length ≤ 5120 := by omega
    clear h5
    go_enter Tryd.func20, Tryd.ntmps20
    go_wp2_with fail
    go_loopw [12] (fun i wr => ∃ k : Nat, k ≤ l.length ∧ i = .int .i64 k ∧ Aside (firstI (verErr l) k = 0) ∧ Aside (Below w.heap.size w wr)) (fun i _ => l.length - (intOf i).toNat)
    case atStart => exact ⟨0, Nat.zero_le _, rfl, ⟨rfl⟩, ⟨Below.refl _ _⟩⟩
    case round =>
      obtain ⟨k, hk, rfl, HK, HB⟩ := hrel
      by_cases hlt : k < l.length
      · obtain ⟨ad, A1, c1, A2, c2, rfl, _, x0, x1, x2, x3, x4, l1, l2, r1, r2⟩ := ver_at (HR.out.below HB.out) hlt
        have hal : Below wr.heap.size wr ((wr.alloc (.cells #[.string l[k].r.id, .int .i64 l[k].r.cats, .slice A1 l[k].r.fields.length c1, .slice A2 l[k].r.refs.length c2, .bool l[k].gone] 62)).alloc (.cells #[.string l[k].r.id, .int .i64 l[k].r.cats, .slice A1 l[k].r.fields.length c1, .slice A2 l[k].r.refs.length c2] 35)) := ((Below.refl _ _).alloc (Nat.le_refl _) _).alloc (by simp) _
        have HQ := Aside.mk ((Bk.made wr (verC l[k] A1 A2 c1 c2) 62).alloc (.cells (recC l[k].r A1 A2 c1 c2).toArray 35))
        have HP := Aside.mk (Bk.made (wr.alloc (.cells (verC l[k] A1 A2 c1 c2).toArray 62)) (recC l[k].r A1 A2 c1 c2) 35)
        rw [show (wr.alloc (.cells (verC l[k] A1 A2 c1 c2).toArray 62)).heap.size = wr.heap.size + 1 from by simp] at HP
        have HB1 := Aside.mk (below_step HB.out hal)
        have R1 := Aside.mk (r1.below hal)
        have R2 := Aside.mk (r2.below hal)
        have HV := Aside.mk (verErr_at hlt)
        have HW1 := Aside.mk (HWF.out _ (List.getElem_mem hlt))
        clear hal r1 r2
        by_cases he : recErr l[k].r = 0
        · have hrec := rec_ok he
          have HE := Aside.mk he
          have e1 : IntKind.i64.wrap ((l[k].r.fields.length : Int) + (l[k].r.refs.length : Int)) = (l[k].r.fields.length : Int) + (l[k].r.refs.length : Int) := by rw [IntKind.wrap_i64]; omega
          clear hrec he
          have p0 : (0 : Int) ≤ (k : Int) := by omega
          have p1 : (k : Int) ≤ (c : Int) := by omega
          have p2 : (0 : Int) ≤ (k : Int) + 1 := by omega
          have p3 : (k : Int) + 1 ≤ (c : Int) := by omega
          have e2 : IntKind.i64.wrap ((k : Int) + 1) = (k : Int) + 1 := by rw [IntKind.wrap_i64]; omega
          have e3 : ((k : Int) + 1).toNat = k + 1 := by omega
          have HT := Aside.mk (show (l.take k).length = k by simp; omega)
          have HT1 := Aside.mk (show (l.take (k + 1)).length = k + 1 by simp; omega)
          go_wp2_with fail
          refine (refRecord l[k].r A1 A2 c1 c2 _ _ HW1.out _ R1.out R2.out).mono ?_
          rw [HE.out]
          rintro e w2 ⟨rfl, hb⟩
          have HX2 := Aside.mk (Kb.of (HQ.out.below hb) (HP.out.below hb))
          have HB2 := Aside.mk (below_step HB1.out hb)
          clear hb HQ HP HB1 R1 R2
          go_wp2_with fail
          generalize wr.heap.size = g1 at HX2 ⊢
          have q0 := HX2.out
          by_cases h20 : 20 < sameN (l.take (k + 1)) l[k].r.cats
          · have HX := Aside.mk (store_hit H5.out hlt HK.out (x := 2) (by decide) (by rw [HV.out, if_neg (by simpa using HE.out), if_pos h20]))
            have g20 : decide ((20 : Int) < ((sameN (l.take (k + 1)) l[k].r.cats : Nat) : Int)) = true := by simp; omega
            clear h20
            go_region_held3 (fun w' => w'.cell? { block := g1, off := 4 } = some (.bool l[k].gone) ∧ w'.cell? { block := g1 + 1, off := 0 } = some (.string l[k].r.id) ∧ w'.cell? { block := g1 + 1, off := 1 } = some (.int .i64 l[k].r.cats) ∧
                w'.cell? { block := g1 + 1, off := 2 } = some (.slice A1 l[k].r.fields.length c1) ∧ w'.cell? { block := g1 + 1, off := 3 } = some (.slice A2 l[k].r.refs.length c2) ∧ Aside (Bk w' g1 (verC l[k] A1 A2 c1 c2) ∧ Bk w' (g1 + 1) (recC l[k].r A1 A2 c1 c2)))
              (first | exact HX2.out | assumption)
              (first
               | (go_at_call 66; refine (refSame (some ad) (k + 1) c (l.take (k + 1)) l[k].r.cats ok _ ((HR.out.below (below_drewN HB2.out 1)).take (k + 1)) HT1.out).mono ?_; rintro e w3 ⟨rfl, hb⟩
                  have hb3 := below_step (below_drewN (Below.refl w2.heap.size w2) 1) hb
                  have hx := Kb.step HX2.out hb3
                  have HX3 := Aside.mk hx
                  have HB3 := Aside.mk (below_step HB2.out hb3)
                  clear hb hb3))
            go_wp2
            go_ret
            exact ⟨by rw [HX.out]; rfl, HB3.out⟩
          · have g20 : decide ((20 : Int) < ((sameN (l.take (k + 1)) l[k].r.cats : Nat) : Int)) = false := by simp; omega
            have HW := Aside.mk (show verErr l k = if goneBad l l[k] k = true then 3 else 0 by rw [HV.out, if_neg (by simpa using HE.out), if_neg h20])
            have HG := Aside.mk (gone_ways2 l l[k] k (Nat.le_of_lt hlt))
            clear h20
            go_region_held3 (fun w' => w'.cell? { block := g1, off := 4 } = some (.bool l[k].gone) ∧ w'.cell? { block := g1 + 1, off := 0 } = some (.string l[k].r.id) ∧ w'.cell? { block := g1 + 1, off := 1 } = some (.int .i64 l[k].r.cats) ∧
                w'.cell? { block := g1 + 1, off := 2 } = some (.slice A1 l[k].r.fields.length c1) ∧ w'.cell? { block := g1 + 1, off := 3 } = some (.slice A2 l[k].r.refs.length c2) ∧ Aside (Bk w' g1 (verC l[k] A1 A2 c1 c2) ∧ Bk w' (g1 + 1) (recC l[k].r A1 A2 c1 c2)))
              (first | exact HX2.out | assumption)
              (first
               | (go_at_call 66; refine (refSame (some ad) (k + 1) c (l.take (k + 1)) l[k].r.cats ok _ ((HR.out.below (below_drewN HB2.out 1)).take (k + 1)) HT1.out).mono ?_; rintro e w3 ⟨rfl, hb⟩
                  have hb3 := below_step (below_drewN (Below.refl w2.heap.size w2) 1) hb
                  have hx := Kb.step HX2.out hb3
                  have HX3 := Aside.mk hx
                  have HB3 := Aside.mk (below_step HB2.out hb3)
                  clear hb hb3))
            go_wp2
            clear hx q0
            rcases HG.out with ⟨a1, HX⟩ | ⟨⟨a1, a2⟩, HX⟩ | ⟨⟨a1, a2, a3⟩, HX⟩ | ⟨⟨a1, a2, a3⟩, HX⟩
            · have q0 := HX3.out
              unfold Kb at q0
              rw [a1] at q0
              go_quiet (fail)
              go_wp2
              refine ⟨⟨k + 1, by omega, by go_num, ⟨firstI_step HK.out (by rw [HW.out, HX.out]; rfl)⟩, ⟨below_drewN HB3.out _⟩⟩, by simp [intOf]; omega⟩
            · have q0 := HX3.out
              unfold Kb at q0
              rw [a1] at q0
              have HY := Aside.mk (store_hit H5.out hlt HK.out (x := 3) (by decide) (by rw [HW.out, HX.out]; rfl))
              go_quiet (fail)
              go_wp2
              go_ret
              exact ⟨by rw [HY.out]; rfl, below_drewN HB3.out _⟩
            all_goals
              have q0 := HX3.out
              unfold Kb at q0
              rw [a1] at q0
              go_region_held3 (fun w' => w'.cell? { block := g1, off := 4 } = some (.bool true) ∧ w'.cell? { block := g1 + 1, off := 0 } = some (.string l[k].r.id) ∧ w'.cell? { block := g1 + 1, off := 1 } = some (.int .i64 l[k].r.cats) ∧
                w'.cell? { block := g1 + 1, off := 2 } = some (.slice A1 l[k].r.fields.length c1) ∧ w'.cell? { block := g1 + 1, off := 3 } = some (.slice A2 l[k].r.refs.length c2) ∧ Aside (Bk w' g1 (verC l[k] A1 A2 c1 c2) ∧ Bk w' (g1 + 1) (recC l[k].r A1 A2 c1 c2)))
                (first | exact q0 | assumption)
                (first
                 | (go_at_call 67; refine (refLives (some ad) k c (l.take k) l[k].r.id l[k].r.cats ok _ ((HR.out.below (below_drewN HB3.out 1)).take k) HT.out).mono ?_; rintro e w4 ⟨rfl, hb⟩
                    have hb4 := below_step (below_drewN (Below.refl w3.heap.size w3) 1) hb
                    have hx := Kb.step HX3.out hb4
                    unfold Kb at hx
                    rw [a1] at hx
                    have HB4 := Aside.mk (below_step HB3.out hb4)
                    clear hb hb4))
              go_wp2
            · have HY := Aside.mk (store_hit H5.out hlt HK.out (x := 3) (by decide) (by rw [HW.out, HX.out]; rfl))
              go_ret
              exact ⟨by rw [HY.out]; rfl, HB4.out⟩
            · refine ⟨⟨k + 1, by omega, by go_num, ⟨firstI_step HK.out (by rw [HW.out, HX.out]; rfl)⟩, HB4⟩, by simp [intOf]; omega⟩
        · have HX := Aside.mk (store_hit H5.out hlt HK.out he (by rw [HV.out, if_pos he]))
          have hb0 : (recErr l[k].r != 0) = true := by simp [he]
          clear he
          go_wp2_with (go_at_call 50; refine (refRecord l[k].r A1 A2 c1 c2 _ _ HW1.out _ R1.out R2.out).mono ?_; rintro e w2 ⟨rfl, hb⟩; have HB2 := Aside.mk (below_step HB1.out hb); clear hb)
          go_ret
          exact ⟨by rw [HX.out]; rfl, HB2.out⟩
      · obtain rfl : k = l.length := by omega
        have HX := Aside.mk (show storeErr l = 0 by rw [storeErr, if_neg H5.out, HK.out])
        go_wp2_with fail
        go_ret
        exact ⟨by rw [HX.out]; rfl, HB.out⟩
end Go.Proofs.WK
