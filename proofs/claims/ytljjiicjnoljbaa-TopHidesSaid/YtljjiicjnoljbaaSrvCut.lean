/-
  (*Server).cut (P38).
-/
import Derived.Test.YtljjiicjnoljbaaSrvPut
import Derived.Test.YtljjiicjnoljbaaStoCut
namespace Go.Proofs.WK
open Go.RowKit Rp
set_option maxHeartbeats 8000000 in
set_option maxRecDepth 100000 in
theorem serverCut (g : Nat) (F : Nat → Prop) (s : Srv) (o : OpV) (B1 : Option Addr) (e1 : Nat) (B2 : Option Addr) (e2 : Nat) (B3 : Option Addr) (e3 : Nat) (w : World) (h : SrvIs w g F s) (hF : ∀ k, F k → k ≠ g) :
    Calls Try.prog 73 #[.pointer (some ⟨g, 0, none⟩), opVal o B1 e1 B2 e2 B3 e3] w fun e w' => e = .returned (.int .i64 (cutE s o)) ∧ SrvIs w' g (fun k => F k ∨ w.heap.size ≤ k) (if cutE s o = 0 then { s with l := cutV s.l o.id o.r.cats } else s) ∧ w.grownBy w' (some g) := by
  have hal : Below w.heap.size w (w.alloc (.cells (opC o B1 e1 B2 e2 B3 e3).toArray 62)) := (Below.refl _ _).alloc (Nat.le_refl _) _
  have HS := Aside.mk ((h.below hal).more (F' := fun k => F k ∨ w.heap.size ≤ k) fun k hk _ => .inl hk)
  obtain ⟨A1, c1, A2, c2, A3, c3, A4, c4, h0, h1, h2, h3, h4⟩ := h
  have hgl := h0.lt
  have HFN : Aside (∀ k, (F k ∨ w.heap.size ≤ k) → k ≠ g) := ⟨fun k hk => hk.elim (hF k) fun h => by omega⟩
  have HU := Aside.mk (And.intro h1.2.1 (h1.2.below hal))
  have HRU := Aside.mk (h2.2.below hal)
  have HL := Aside.mk (And.intro h3.1 (h3.2.below hal))
  have HB := Aside.mk hal
  have HBK := Aside.mk (h0.below hal)
  have hbk := Bk.made w (opC o B1 e1 B2 e2 B3 e3) 62
  have q1 := (h0.below hal).four
  have HK := Aside.mk (show Kf (w.alloc (.cells (opC o B1 e1 B2 e2 B3 e3).toArray 62)) g w.heap.size (.slice A1 s.up.length c1) (.slice A2 s.rules.length c2) (.slice A3 s.l.length c3) o.who o.r.id o.r.cats (.slice B2 o.r.fields.length e2) (.slice B3 o.r.refs.length e3) o.id from
    ⟨q1.2.1, q1.2.2.1, q1.2.2.2.1, hbk.cell 1, hbk.cell 2, hbk.cell 3, hbk.cell 5, hbk.cell 6, hbk.cell 7, hbk.cell 8, hbk.cell 9⟩)
  clear h0 h1 h2 h3 h4 hal hF hgl q1 hbk
  unfold opVal
  unfold opC at HS HU HRU HL HB HK
  obtain ⟨me, hme⟩ : ∃ me, mayErr s.up s.rules o.who o.r.cats = me := ⟨_, rfl⟩
  obtain ⟨mv, hmv⟩ : ∃ mv, mayV s.up s.rules o.who o.r.cats = mv := ⟨_, rfl⟩
  have HME := Aside.mk hme
  have HMV := Aside.mk hmv
  have e0 : cutE s o = if me ≠ 0 then me else if mv = false then 6 else cutErr s.l o.id o.r.cats := by rw [cutE, hme, hmv]
  clear hme hmv
  have q := HK.out
  by_cases p2 : me = 0
  case neg =>
    rw [e0, if_pos p2]
    have g3 : (me != 0) = true := by simp [p2]
    rw [if_neg p2]
    clear e0 p2
    go_enter Try.func73, Try.ntmps73
    go_wp2_with fail
    go_region_held3 (fun w' => Kf w' g w.heap.size (.slice A1 s.up.length c1) (.slice A2 s.rules.length c2) (.slice A3 s.l.length c3) o.who o.r.id o.r.cats (.slice B2 o.r.fields.length e2) (.slice B3 o.r.refs.length e3) o.id)
      (first | exact HK.out | assumption)
      (first
       | (go_at_call 20; refine (ruleMay _ _ s.up _ _ s.rules o.who o.r.cats _ _ _ (HU.out.2.below (below_drewN (Below.refl _ _) 1)) HU.out.1 (HRU.out.below (below_drewN (Below.refl _ _) 1)) HRU.out.1).mono ?_; rw [HME.out, HMV.out]; rintro e w2 ⟨rfl, hb⟩
          have hb3 := below_step (below_drewN (Below.refl _ _) 1) hb
          have hx := Kf.step HK.out hb3
          have HK2 := Aside.mk hx
          have HS2 := Aside.mk (HS.out.below hb3)
          have HB2 := Aside.mk (below_step HB.out hb3)
          have HB20 := Aside.mk hb3
          clear hb hb3))
    go_wp2_with fail
    go_ret
    exact ⟨rfl, HS2.out, below_grown HB2.out _⟩
  case pos =>
    subst p2
    cases mv with
    | false =>
      have e5 : cutE s o = 6 := by rw [e0]; rfl
      rw [e5, if_neg (by decide)]
      clear e0 e5
      go_enter Try.func73, Try.ntmps73
      go_wp2_with fail
      go_region_held3 (fun w' => Kf w' g w.heap.size (.slice A1 s.up.length c1) (.slice A2 s.rules.length c2) (.slice A3 s.l.length c3) o.who o.r.id o.r.cats (.slice B2 o.r.fields.length e2) (.slice B3 o.r.refs.length e3) o.id)
        (first | exact HK.out | assumption)
        (first
         | (go_at_call 20; refine (ruleMay _ _ s.up _ _ s.rules o.who o.r.cats _ _ _ (HU.out.2.below (below_drewN (Below.refl _ _) 1)) HU.out.1 (HRU.out.below (below_drewN (Below.refl _ _) 1)) HRU.out.1).mono ?_; rw [HME.out, HMV.out]; rintro e w2 ⟨rfl, hb⟩
            have hb3 := below_step (below_drewN (Below.refl _ _) 1) hb
            have hx := Kf.step HK.out hb3
            have HK2 := Aside.mk hx
            have HS2 := Aside.mk (HS.out.below hb3)
            have HB2 := Aside.mk (below_step HB.out hb3)
            have HB20 := Aside.mk hb3
            clear hb hb3))
      go_wp2_with fail
      go_ret
      exact ⟨rfl, HS2.out, below_grown HB2.out _⟩
    | true =>
      have e5 : cutE s o = cutErr s.l o.id o.r.cats := by rw [e0]; rfl
      rw [e5]
      clear e0 e5
      obtain ⟨pe, hpe⟩ : ∃ pe, cutErr s.l o.id o.r.cats = pe := ⟨_, rfl⟩
      have HPE := Aside.mk hpe
      rw [hpe]
      clear hpe
      by_cases p3 : pe = 0
      case neg =>
        rw [if_neg p3]
        have g3 : (pe == 0) = false := by simp [p3]
        clear p3
        go_enter Try.func73, Try.ntmps73
        go_wp2_with fail
        go_region_held3 (fun w' => Kf w' g w.heap.size (.slice A1 s.up.length c1) (.slice A2 s.rules.length c2) (.slice A3 s.l.length c3) o.who o.r.id o.r.cats (.slice B2 o.r.fields.length e2) (.slice B3 o.r.refs.length e3) o.id)
          (first | exact HK.out | assumption)
          (first
           | (go_at_call 20; refine (ruleMay _ _ s.up _ _ s.rules o.who o.r.cats _ _ _ (HU.out.2.below (below_drewN (Below.refl _ _) 1)) HU.out.1 (HRU.out.below (below_drewN (Below.refl _ _) 1)) HRU.out.1).mono ?_; rw [HME.out, HMV.out]; rintro e w2 ⟨rfl, hb⟩
              have hb3 := below_step (below_drewN (Below.refl _ _) 1) hb
              have hx := Kf.step HK.out hb3
              have HK2 := Aside.mk hx
              have HS2 := Aside.mk (HS.out.below hb3)
              have HB2 := Aside.mk (below_step HB.out hb3)
              have HB20 := Aside.mk hb3
              clear hb hb3))
        go_wp2_with fail
        clear q
        have q := HK2.out
        go_region_held3 (fun w' => Kf w' g w.heap.size (.slice A1 s.up.length c1) (.slice A2 s.rules.length c2) (.slice A3 s.l.length c3) o.who o.r.id o.r.cats (.slice B2 o.r.fields.length e2) (.slice B3 o.r.refs.length e3) o.id)
          (first | exact HK2.out | assumption)
          (first
           | (go_at_call 101; refine (storeCut _ _ s.l o.id o.r.cats _ _ ((HL.out.2.below HB20.out).below (below_drewN (Below.refl _ _) 1)) HL.out.1).mono ?_; rw [HPE.out]; rintro e w3 ⟨v3, rfl, s3, hb⟩
              have hsz : w.heap.size ≤ (w2.drewN 1).heap.size := HB2.out.size
              have hb3 := below_step (below_drewN (Below.refl _ _) 1) hb
              have hx := Kf.step HK2.out hb3
              have HS3 := Aside.mk (HS2.out.below hb3)
              have HB3 := Aside.mk (below_step HB2.out hb3)
              have HBK3 := Aside.mk (HBK.out.below (below_step HB20.out hb3))
              have HV := Aside.mk (s3.mono (ok' := fun k => F k ∨ w.heap.size ≤ k) fun k hk _ => .inr (Nat.le_trans hsz hk))
              obtain ⟨X3, d3, rfl⟩ := Sl.form s3
              clear s3 hb hb3 hsz))
        clear q
        go_wp2_with fail
        go_ret
        exact ⟨rfl, HS3.out, below_grown HB3.out _⟩
      case pos =>
        rw [if_pos p3]
        subst p3
        go_enter Try.func73, Try.ntmps73
        go_wp2_with fail
        go_region_held3 (fun w' => Kf w' g w.heap.size (.slice A1 s.up.length c1) (.slice A2 s.rules.length c2) (.slice A3 s.l.length c3) o.who o.r.id o.r.cats (.slice B2 o.r.fields.length e2) (.slice B3 o.r.refs.length e3) o.id)
          (first | exact HK.out | assumption)
          (first
           | (go_at_call 20; refine (ruleMay _ _ s.up _ _ s.rules o.who o.r.cats _ _ _ (HU.out.2.below (below_drewN (Below.refl _ _) 1)) HU.out.1 (HRU.out.below (below_drewN (Below.refl _ _) 1)) HRU.out.1).mono ?_; rw [HME.out, HMV.out]; rintro e w2 ⟨rfl, hb⟩
              have hb3 := below_step (below_drewN (Below.refl _ _) 1) hb
              have hx := Kf.step HK.out hb3
              have HK2 := Aside.mk hx
              have HS2 := Aside.mk (HS.out.below hb3)
              have HB2 := Aside.mk (below_step HB.out hb3)
              have HB20 := Aside.mk hb3
              clear hb hb3))
        go_wp2_with fail
        clear q
        have q := HK2.out
        go_region_held3 (fun w' => Kf w' g w.heap.size (.slice A1 s.up.length c1) (.slice A2 s.rules.length c2) (.slice A3 s.l.length c3) o.who o.r.id o.r.cats (.slice B2 o.r.fields.length e2) (.slice B3 o.r.refs.length e3) o.id)
          (first | exact HK2.out | assumption)
          (first
           | (go_at_call 101; refine (storeCut _ _ s.l o.id o.r.cats _ _ ((HL.out.2.below HB20.out).below (below_drewN (Below.refl _ _) 1)) HL.out.1).mono ?_; rw [HPE.out]; rintro e w3 ⟨v3, rfl, s3, hb⟩
              have hsz : w.heap.size ≤ (w2.drewN 1).heap.size := HB2.out.size
              have hb3 := below_step (below_drewN (Below.refl _ _) 1) hb
              have hx := Kf.step HK2.out hb3
              have HS3 := Aside.mk (HS2.out.below hb3)
              have HB3 := Aside.mk (below_step HB2.out hb3)
              have HBK3 := Aside.mk (HBK.out.below (below_step HB20.out hb3))
              have HV := Aside.mk (s3.mono (ok' := fun k => F k ∨ w.heap.size ≤ k) fun k hk _ => .inr (Nat.le_trans hsz hk))
              obtain ⟨X3, d3, rfl⟩ := Sl.form s3
              clear s3 hb hb3 hsz))
        clear q
        have q3 := HBK3.out.four
        go_wp2_with fail
        go_ret
        exact ⟨rfl, HS3.out.setL HFN.out HV.out, (below_grown HB3.out _).trans (grown_set _ _ _ _)⟩
end Go.Proofs.WK
