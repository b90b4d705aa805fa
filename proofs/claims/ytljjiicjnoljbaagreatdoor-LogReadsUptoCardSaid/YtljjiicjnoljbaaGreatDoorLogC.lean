/-
  log.Check, wyref.Logged (P44).
-/
import Derived.Test.YtljjiicjnoljbaaGreatDoorLog0
import Derived.Test.YtljjiicjnoljbaaGreatDoorRec0
import Derived.Test.YtljjiicjnoljbaaGreatDoorRef0
namespace Go.Proofs.WK
open Go.RowKit Rp
theorem opC_rec {w : World} {n : Nat} {o : OpV} {B1 B2 B3 : Option Addr} {e1 e2 e3 : Nat} (h : Bk w n (opC o B1 e1 B2 e2 B3 e3)) :
    n < w.heap.size ∧ w.cell? ⟨n, 0, none⟩ = some (.int .i64 o.kind) ∧ w.cell? ⟨n, 1, none⟩ = some (.int .i64 o.who.role) ∧ w.cell? ⟨n, 2, none⟩ = some (.int .i64 o.who.why) ∧ w.cell? ⟨n, 3, none⟩ = some (.int .i64 o.who.time) ∧
    w.cell? ⟨n, 4, none⟩ = some (.slice B1 o.rules.length e1) ∧ w.cell? ⟨n, 5, none⟩ = some (.string o.r.id) ∧ w.cell? ⟨n, 6, none⟩ = some (.int .i64 o.r.cats) ∧ w.cell? ⟨n, 7, none⟩ = some (.slice B2 o.r.fields.length e2) ∧
    w.cell? ⟨n, 8, none⟩ = some (.slice B3 o.r.refs.length e3) ∧ w.cell? ⟨n, 9, none⟩ = some (.string o.id) ∧ w.cell? ⟨n, 10, none⟩ = some (.string o.f.key) ∧ w.cell? ⟨n, 11, none⟩ = some (.string o.f.val) ∧ ∀ x, w.frozen? ⟨n, x, none⟩ = false :=
  ⟨h.lt, h.cell 0, h.cell 1, h.cell 2, h.cell 3, h.cell 4, h.cell 5, h.cell 6, h.cell 7, h.cell 8, h.cell 9, h.cell 10, h.cell 11, h.frozen⟩
theorem log_ways (o : OpV) : (o.kind = 1 ∧ logErr o = rulesErr o.rules) ∨ ((o.kind = 2 ∧ whoOk o.who = false) ∧ logErr o = 1) ∨ ((o.kind = 2 ∧ whoOk o.who = true) ∧ logErr o = recErr o.r) ∨
    ((o.kind = 3 ∧ whoOk o.who = false) ∧ logErr o = 1) ∨ ((o.kind = 3 ∧ whoOk o.who = true ∧ decide (0 ≤ o.r.cats ∧ o.r.cats ≤ 255) = false) ∧ logErr o = 1) ∨
    ((o.kind = 3 ∧ whoOk o.who = true ∧ decide (0 ≤ o.r.cats ∧ o.r.cats ≤ 255) = true ∧ idOk o.id = false) ∧ logErr o = 3) ∨ ((o.kind = 3 ∧ whoOk o.who = true ∧ decide (0 ≤ o.r.cats ∧ o.r.cats ≤ 255) = true ∧ idOk o.id = true) ∧ logErr o = 0) ∨
    ((o.kind ≠ 1 ∧ o.kind ≠ 2 ∧ o.kind ≠ 3) ∧ logErr o = 3) := by
  unfold logErr
  by_cases h1 : o.kind = 1
  · exact .inl ⟨h1, if_pos h1⟩
  · rw [if_neg h1]
    by_cases h2 : o.kind = 2
    · rw [if_pos h2]
      cases hw : whoOk o.who
      · exact .inr (.inl ⟨⟨h2, rfl⟩, by simp⟩)
      · exact .inr (.inr (.inl ⟨⟨h2, rfl⟩, by simp⟩))
    · rw [if_neg h2]
      by_cases h3 : o.kind = 3
      · rw [if_pos h3]
        cases hw : whoOk o.who
        · exact .inr (.inr (.inr (.inl ⟨⟨h3, rfl⟩, by simp⟩)))
        · by_cases hc : 0 ≤ o.r.cats ∧ o.r.cats ≤ 255
          · rw [if_pos ⟨rfl, hc⟩]
            cases hi : idOk o.id
            · exact .inr (.inr (.inr (.inr (.inr (.inl ⟨⟨h3, rfl, decide_eq_true hc, rfl⟩, by simp⟩)))))
            · exact .inr (.inr (.inr (.inr (.inr (.inr (.inl ⟨⟨h3, rfl, decide_eq_true hc, rfl⟩, by simp⟩))))))
          · rw [if_neg (fun h => hc h.2)]
            exact .inr (.inr (.inr (.inr (.inl ⟨⟨h3, rfl, decide_eq_false hc⟩, rfl⟩))))
      · rw [if_neg h3]
        exact .inr (.inr (.inr (.inr (.inr (.inr (.inr ⟨⟨h1, h2, h3⟩, rfl⟩))))))
set_option maxRecDepth 100000 in
set_option maxHeartbeats 4000000 in
theorem logCheck (o : OpV) (B1 B2 B3 : Option Addr) (e1 e2 e3 : Nat) (ok1 ok2 ok3 : Nat → Prop) (w : World) (hr : rulR.Row w ok1 B1 o.rules) (hf : fldR.Row w ok2 B2 o.r.fields) (hg : str.Row w ok3 B3 o.r.refs) (hwf : RecWf o.r) :
    Calls Tryz.prog 60 #[opVal o B1 e1 B2 e2 B3 e3] w fun e w' => e = .returned (.int .i64 (logErr o)) ∧ Below w.heap.size w w' := by
  have hal : Below w.heap.size w (w.alloc (.cells (opC o B1 e1 B2 e2 B3 e3).toArray 40)) := (Below.refl _ _).alloc (Nat.le_refl _) _
  have HQ := Aside.mk (Bk.made w (opC o B1 e1 B2 e2 B3 e3) 40)
  have HR := Aside.mk (hr.below hal)
  have HF := Aside.mk (hf.below hal)
  have HG := Aside.mk (hg.below hal)
  have HB := Aside.mk hal
  have HWF := Aside.mk hwf
  have hl := hr.1
  unfold opC opVal at *
  have q0 := opC_rec HQ.out
  clear hr hf hg hal hwf
  rcases log_ways o with ⟨hk, he⟩ | ⟨⟨hk, hw⟩, he⟩ | ⟨⟨hk, hw⟩, he⟩ | ⟨⟨hk, hw⟩, he⟩ | ⟨⟨hk, hw, hc⟩, he⟩ | ⟨⟨hk, hw, hc, hi⟩, he⟩ | ⟨⟨hk, hw, hc, hi⟩, he⟩ | ⟨⟨h1, h2, h3⟩, he⟩
  · rw [he]
    have k1 : (o.kind == 1) = true := by rw [hk]; rfl
    clear he hk
    go_enter Tryz.func60, Tryz.ntmps60
    go_wp2_with fail
    refine (ruleCheck B1 e1 o.rules ok1 _ HR.out hl).mono ?_
    rintro e w1 ⟨rfl, hb⟩
    have HB1 := Aside.mk (below_step HB.out hb)
    clear hb q0
    go_wp2_with fail
    go_ret
    exact ⟨rfl, HB1.out⟩
  · rw [he]
    have k1 : (o.kind == 1) = false := by rw [hk]; rfl
    have k2 : (o.kind == 2) = true := by rw [hk]; rfl
    clear he hk
    go_enter Tryz.func60, Tryz.ntmps60
    go_wp2_with fail
    refine (ruleWho o.who _).mono ?_
    rw [hw]
    rintro e w1 ⟨rfl, hb⟩
    have HB1 := Aside.mk (below_step HB.out hb)
    clear hb q0
    go_wp2_with fail
    go_ret
    exact ⟨rfl, HB1.out⟩
  · rw [he]
    have k1 : (o.kind == 1) = false := by rw [hk]; rfl
    have k2 : (o.kind == 2) = true := by rw [hk]; rfl
    clear he hk
    go_enter Tryz.func60, Tryz.ntmps60
    go_wp2_with fail
    refine (ruleWho o.who _).mono ?_
    rw [hw]
    rintro e w1 ⟨rfl, hb⟩
    have HB1 := Aside.mk (below_step HB.out hb)
    have HF1 := Aside.mk (HF.out.below hb)
    have HG1 := Aside.mk (HG.out.below hb)
    have q1 := opC_rec (HQ.out.below hb)
    clear hb q0
    go_wp2_with fail
    refine (recCheck o.r B2 B3 e2 e3 _ _ _ HF1.out HG1.out).mono ?_
    rintro e w2 ⟨rfl, hb⟩
    have HB2 := Aside.mk (below_step HB1.out hb)
    clear hb q1
    go_wp2_with fail
    go_ret
    exact ⟨rfl, HB2.out⟩
  · rw [he]
    have k1 : (o.kind == 1) = false := by rw [hk]; rfl
    have k2 : (o.kind == 2) = false := by rw [hk]; rfl
    have k3 : (o.kind == 3) = true := by rw [hk]; rfl
    clear he hk
    go_enter Tryz.func60, Tryz.ntmps60
    go_wp2_with fail
    refine (ruleWho o.who _).mono ?_
    rw [hw]
    rintro e w1 ⟨rfl, hb⟩
    have HB1 := Aside.mk (below_step HB.out hb)
    clear hb q0
    go_wp2_with fail
    go_ret
    exact ⟨rfl, HB1.out⟩
  · rw [he]
    have k1 : (o.kind == 1) = false := by rw [hk]; rfl
    have k2 : (o.kind == 2) = false := by rw [hk]; rfl
    have k3 : (o.kind == 3) = true := by rw [hk]; rfl
    clear he hk
    go_enter Tryz.func60, Tryz.ntmps60
    go_wp2_with fail
    refine (ruleWho o.who _).mono ?_
    rw [hw]
    rintro e w1 ⟨rfl, hb⟩
    have HB1 := Aside.mk (below_step HB.out hb)
    have q1 := opC_rec (HQ.out.below hb)
    clear hb q0
    go_wp2_with fail
    refine (labelCats o.r.cats _).mono ?_
    rw [hc]
    rintro e w2 ⟨rfl, rfl⟩
    go_wp2_with fail
    go_ret
    exact ⟨rfl, HB1.out⟩
  · rw [he]
    have k1 : (o.kind == 1) = false := by rw [hk]; rfl
    have k2 : (o.kind == 2) = false := by rw [hk]; rfl
    have k3 : (o.kind == 3) = true := by rw [hk]; rfl
    clear he hk
    go_enter Tryz.func60, Tryz.ntmps60
    go_wp2_with fail
    refine (ruleWho o.who _).mono ?_
    rw [hw]
    rintro e w1 ⟨rfl, hb⟩
    have HB1 := Aside.mk (below_step HB.out hb)
    have q1 := opC_rec (HQ.out.below hb)
    clear hb q0
    go_wp2_with fail
    refine (labelCats o.r.cats _).mono ?_
    rw [hc]
    rintro e w2 ⟨rfl, rfl⟩
    go_wp2_with fail
    refine (recId o.id _).mono ?_
    rw [hi]
    rintro e w3 ⟨rfl, hb⟩
    have HB2 := Aside.mk (hb ▸ HB1.out)
    clear hb q1
    go_wp2_with fail
    go_ret
    exact ⟨rfl, HB2.out⟩
  · rw [he]
    have k1 : (o.kind == 1) = false := by rw [hk]; rfl
    have k2 : (o.kind == 2) = false := by rw [hk]; rfl
    have k3 : (o.kind == 3) = true := by rw [hk]; rfl
    clear he hk
    go_enter Tryz.func60, Tryz.ntmps60
    go_wp2_with fail
    refine (ruleWho o.who _).mono ?_
    rw [hw]
    rintro e w1 ⟨rfl, hb⟩
    have HB1 := Aside.mk (below_step HB.out hb)
    have q1 := opC_rec (HQ.out.below hb)
    clear hb q0
    go_wp2_with fail
    refine (labelCats o.r.cats _).mono ?_
    rw [hc]
    rintro e w2 ⟨rfl, rfl⟩
    go_wp2_with fail
    refine (recId o.id _).mono ?_
    rw [hi]
    rintro e w3 ⟨rfl, hb⟩
    have HB2 := Aside.mk (hb ▸ HB1.out)
    clear hb q1
    go_wp2_with fail
    go_ret
    exact ⟨rfl, HB2.out⟩
  · have g1 : (o.kind == 1) = false := beq_eq_false_iff_ne.2 h1
    have g2 : (o.kind == 2) = false := beq_eq_false_iff_ne.2 h2
    have g3 : (o.kind == 3) = false := beq_eq_false_iff_ne.2 h3
    rw [he]
    clear he h1 h2 h3
    go_enter Tryz.func60, Tryz.ntmps60
    go_wp2_with fail
    go_ret
    exact ⟨rfl, HB.out⟩
set_option maxRecDepth 100000 in
set_option maxHeartbeats 4000000 in
theorem refLogged (o : OpV) (B1 B2 B3 : Option Addr) (e1 e2 e3 : Nat) (ok1 ok2 ok3 : Nat → Prop) (w : World) (hr : rulR.Row w ok1 B1 o.rules) (hf : fldR.Row w ok2 B2 o.r.fields) (hg : str.Row w ok3 B3 o.r.refs) (hwf : RecWf o.r) :
    Calls Tryz.prog 115 #[opVal o B1 e1 B2 e2 B3 e3] w fun e w' => e = .returned (.int .i64 (logErr o)) ∧ Below w.heap.size w w' := by
  have hal : Below w.heap.size w (w.alloc (.cells (opC o B1 e1 B2 e2 B3 e3).toArray 40)) := (Below.refl _ _).alloc (Nat.le_refl _) _
  have HQ := Aside.mk (Bk.made w (opC o B1 e1 B2 e2 B3 e3) 40)
  have HR := Aside.mk (hr.below hal)
  have HF := Aside.mk (hf.below hal)
  have HG := Aside.mk (hg.below hal)
  have HB := Aside.mk hal
  have HWF := Aside.mk hwf
  have hl := hr.1
  unfold opC opVal at *
  have q0 := opC_rec HQ.out
  clear hr hf hg hal hwf
  rcases log_ways o with ⟨hk, he⟩ | ⟨⟨hk, hw⟩, he⟩ | ⟨⟨hk, hw⟩, he⟩ | ⟨⟨hk, hw⟩, he⟩ | ⟨⟨hk, hw, hc⟩, he⟩ | ⟨⟨hk, hw, hc, hi⟩, he⟩ | ⟨⟨hk, hw, hc, hi⟩, he⟩ | ⟨⟨h1, h2, h3⟩, he⟩
  · rw [he]
    have k1 : (o.kind == 1) = true := by rw [hk]; rfl
    clear he hk
    go_enter Tryz.func115, Tryz.ntmps115
    go_wp2_with fail
    refine (refRules B1 e1 o.rules ok1 _ HR.out hl).mono ?_
    rintro e w1 ⟨rfl, hb⟩
    have HB1 := Aside.mk (below_step HB.out hb)
    clear hb q0
    go_wp2_with fail
    go_ret
    exact ⟨rfl, HB1.out⟩
  · rw [he]
    have k1 : (o.kind == 1) = false := by rw [hk]; rfl
    have k2 : (o.kind == 2) = true := by rw [hk]; rfl
    clear he hk
    go_enter Tryz.func115, Tryz.ntmps115
    go_wp2_with fail
    refine (refWho o.who _).mono ?_
    rw [hw]
    rintro e w1 ⟨rfl, hb⟩
    have HB1 := Aside.mk (below_step HB.out hb)
    clear hb q0
    go_wp2_with fail
    go_ret
    exact ⟨rfl, HB1.out⟩
  · rw [he]
    have k1 : (o.kind == 1) = false := by rw [hk]; rfl
    have k2 : (o.kind == 2) = true := by rw [hk]; rfl
    clear he hk
    go_enter Tryz.func115, Tryz.ntmps115
    go_wp2_with fail
    refine (refWho o.who _).mono ?_
    rw [hw]
    rintro e w1 ⟨rfl, hb⟩
    have HB1 := Aside.mk (below_step HB.out hb)
    have HF1 := Aside.mk (HF.out.below hb)
    have HG1 := Aside.mk (HG.out.below hb)
    have q1 := opC_rec (HQ.out.below hb)
    clear hb q0
    go_wp2_with fail
    refine (refRecord o.r B2 B3 e2 e3 _ _ HWF.out _ HF1.out HG1.out).mono ?_
    rintro e w2 ⟨rfl, hb⟩
    have HB2 := Aside.mk (below_step HB1.out hb)
    clear hb q1
    go_wp2_with fail
    go_ret
    exact ⟨rfl, HB2.out⟩
  · rw [he]
    have k1 : (o.kind == 1) = false := by rw [hk]; rfl
    have k2 : (o.kind == 2) = false := by rw [hk]; rfl
    have k3 : (o.kind == 3) = true := by rw [hk]; rfl
    clear he hk
    go_enter Tryz.func115, Tryz.ntmps115
    go_wp2_with fail
    refine (refWho o.who _).mono ?_
    rw [hw]
    rintro e w1 ⟨rfl, hb⟩
    have HB1 := Aside.mk (below_step HB.out hb)
    clear hb q0
    go_wp2_with fail
    go_ret
    exact ⟨rfl, HB1.out⟩
  · rw [he]
    have k1 : (o.kind == 1) = false := by rw [hk]; rfl
    have k2 : (o.kind == 2) = false := by rw [hk]; rfl
    have k3 : (o.kind == 3) = true := by rw [hk]; rfl
    clear he hk
    go_enter Tryz.func115, Tryz.ntmps115
    go_wp2_with fail
    refine (refWho o.who _).mono ?_
    rw [hw]
    rintro e w1 ⟨rfl, hb⟩
    have HB1 := Aside.mk (below_step HB.out hb)
    have q1 := opC_rec (HQ.out.below hb)
    clear hb q0
    go_wp2_with fail
    refine (refCats o.r.cats _).mono ?_
    rw [hc]
    rintro e w2 ⟨rfl, rfl⟩
    go_wp2_with fail
    go_ret
    exact ⟨rfl, HB1.out⟩
  · rw [he]
    have k1 : (o.kind == 1) = false := by rw [hk]; rfl
    have k2 : (o.kind == 2) = false := by rw [hk]; rfl
    have k3 : (o.kind == 3) = true := by rw [hk]; rfl
    clear he hk
    go_enter Tryz.func115, Tryz.ntmps115
    go_wp2_with fail
    refine (refWho o.who _).mono ?_
    rw [hw]
    rintro e w1 ⟨rfl, hb⟩
    have HB1 := Aside.mk (below_step HB.out hb)
    have q1 := opC_rec (HQ.out.below hb)
    clear hb q0
    go_wp2_with fail
    refine (refCats o.r.cats _).mono ?_
    rw [hc]
    rintro e w2 ⟨rfl, rfl⟩
    go_wp2_with fail
    refine (refId o.id _).mono ?_
    rw [hi]
    rintro e w3 ⟨rfl, hb⟩
    have HB2 := Aside.mk (below_step HB1.out hb)
    clear hb q1
    go_wp2_with fail
    go_ret
    exact ⟨rfl, HB2.out⟩
  · rw [he]
    have k1 : (o.kind == 1) = false := by rw [hk]; rfl
    have k2 : (o.kind == 2) = false := by rw [hk]; rfl
    have k3 : (o.kind == 3) = true := by rw [hk]; rfl
    clear he hk
    go_enter Tryz.func115, Tryz.ntmps115
    go_wp2_with fail
    refine (refWho o.who _).mono ?_
    rw [hw]
    rintro e w1 ⟨rfl, hb⟩
    have HB1 := Aside.mk (below_step HB.out hb)
    have q1 := opC_rec (HQ.out.below hb)
    clear hb q0
    go_wp2_with fail
    refine (refCats o.r.cats _).mono ?_
    rw [hc]
    rintro e w2 ⟨rfl, rfl⟩
    go_wp2_with fail
    refine (refId o.id _).mono ?_
    rw [hi]
    rintro e w3 ⟨rfl, hb⟩
    have HB2 := Aside.mk (below_step HB1.out hb)
    clear hb q1
    go_wp2_with fail
    go_ret
    exact ⟨rfl, HB2.out⟩
  · have g1 : (o.kind == 1) = false := beq_eq_false_iff_ne.2 h1
    have g2 : (o.kind == 2) = false := beq_eq_false_iff_ne.2 h2
    have g3 : (o.kind == 3) = false := beq_eq_false_iff_ne.2 h3
    rw [he]
    clear he h1 h2 h3
    go_enter Tryz.func115, Tryz.ntmps115
    go_wp2_with fail
    go_ret
    exact ⟨rfl, HB.out⟩
end Go.Proofs.WK
