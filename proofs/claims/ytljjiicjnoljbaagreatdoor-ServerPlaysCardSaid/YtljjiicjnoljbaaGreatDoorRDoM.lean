/-
  (*wyref.Server).Do (P41, P42): need, audit, and what there is not.
-/
import Derived.Test.YtljjiicjnoljbaaGreatDoorRDoL
namespace Go.Proofs.WK
open Go.RowKit Rp
variable {w w1 W : World} {g base : Nat} {X F Y : Nat → Prop} {s : Srv} {o : OpV}
theorem DidN.need {W5 : World} {c d e f v1 : Value} {x : Ver} {wd : World} (hk : o.kind = 7) (he : needE s o = 0) (hb : Below w.heap.size w wd) (hsz : w.heap.size + 1 + 1 ≤ wd.heap.size) (hnd : Needed wd g base (fun k => X k ∧ k < w.heap.size) s o W5) (hv : oneV s.l o.id = [x]) (h1 : verR.Sl W5 (fun k => X k ∧ k < w.heap.size) v1 [x]) (hgl : g < w.heap.size) (hnl : ∀ k, s.nv.ownBlock = some k → k < w.heap.size) :
    DidN w g base X s o (.returned (.agg #[.int .i64 0, v1, .slice none 0 0, .slice none 0 0])) ((((W5.setCell ⟨w.heap.size + 1, 0, none⟩ c).setCell ⟨w.heap.size + 1, 1, none⟩ d).setCell ⟨w.heap.size + 1, 2, none⟩ e).setCell ⟨w.heap.size + 1, 3, none⟩ f) := by
  have hc : Chg (fun k => w.heap.size ≤ k ∧ k < wd.heap.size) W5 ((((W5.setCell ⟨w.heap.size + 1, 0, none⟩ c).setCell ⟨w.heap.size + 1, 1, none⟩ d).setCell ⟨w.heap.size + 1, 2, none⟩ e).setCell ⟨w.heap.size + 1, 3, none⟩ f) := told4_chg ⟨by omega, by omega⟩
  obtain ⟨nv, hs, hno, hat, hcc⟩ := needed_lift hb hnd hc (fun k hk => hk.2) hgl hnl
  have e0 := doS_need (s := s) hk
  rw [if_pos he] at e0
  refine ⟨v1, .slice none 0 0, .slice none 0 0, nv, by rw [e0, he], ?_, ?_, ?_, hs.more fun k hk _ => .inl hk, hno, hat, hcc⟩
  · rw [e0]
    simp only
    rw [if_pos he, hv]
    exact (h1.move fun k hk hl => hc.block k hl fun h => by have := hk.2; omega).mono fun _ _ _ => trivial
  · rw [e0]; exact Sl.nil _ _ _
  · rw [e0]; exact Sl.nil _ _ _
theorem need_cells {W5 wd : World} {n : Nat} (hk : o.kind = 7) (hnd : Needed wd g base F s o W5) (hb : Bk wd n tz) (hg : ¬ n = g) (hn : ∀ k, s.nv.ownBlock = some k → n ≠ k) : ∃ B1 f1 B2 f2 B3 f3,
    (g < W5.heap.size ∧ W5.cell? ⟨g, 0, none⟩ = some (.slice B1 (doS s o).1.up.length f1) ∧ W5.cell? ⟨g, 1, none⟩ = some (.slice B2 (doS s o).1.rules.length f2) ∧ W5.cell? ⟨g, 2, none⟩ = some (.slice B3 s.l.length f3)) ∧ s.l.length ≤ f3 ∧ verR.Row W5 F B3 s.l ∧ True ∧
    (n < W5.heap.size ∧ W5.cell? ⟨n, 0, none⟩ = some (.int .i64 0) ∧ W5.cell? ⟨n, 1, none⟩ = some (.slice none 0 0) ∧ W5.cell? ⟨n, 2, none⟩ = some (.slice none 0 0) ∧ W5.cell? ⟨n, 3, none⟩ = some (.slice none 0 0) ∧ (∀ x, W5.frozen? ⟨n, x, none⟩ = false)) := by
  obtain ⟨nv, hs, _, _, hc⟩ := hnd
  have hl : (doS s o).1.l = s.l := by
    rw [doS_need hk]
    simp only
    split <;> rfl
  obtain ⟨A1, c1, A2, c2, A3, c3, A4, c4, h0, h1, h2, h3, h4⟩ := hs
  have hq := Bk.four (bk_chg hb hc (fun h => h.elim hg fun e => hn n e rfl))
  simp only at h0 h3
  rw [hl] at h0 h3
  exact ⟨A1, c1, A2, c2, A3, c3, ⟨h0.lt, h0.cell 0, h0.cell 1, h0.cell 2⟩, h3.1, h3.2, trivial, hq⟩
set_option maxHeartbeats 8000000 in
set_option maxRecDepth 100000 in
theorem rdNeed (g base : Nat) (X Y : Nat → Prop) (s : Srv) (o : OpV) (hk : o.kind = 7) (B1 : Option Addr) (e1 : Nat) (B2 : Option Addr) (e2 : Nat) (B3 : Option Addr) (e3 : Nat) (w : World) (h : SrvIs w g X s) (hX : ∀ k, X k → k ≠ g ∧ some k ≠ s.nv.ownBlock) (hn : NOwn w base s.nv s.notes) (hbase : base ≤ w.heap.size) (hng : ∀ k, s.nv.ownBlock = some k → k ≠ g) (hst : storeErr s.l = 0) (h60 : s.notes.length ≤ 60) (hfv : o.f.val.size ≤ 9223372036854775807)
    (hr : rulR.Row w Y B1 o.rules) (hf : fldR.Row w Y B2 o.r.fields) (hg : str.Row w Y B3 o.r.refs) :
    Calls Tryz.prog 37 #[.pointer (some ⟨g, 0, none⟩), opVal o B1 e1 B2 e2 B3 e3] w (DidN w g base X s o) := by
  have h' : SrvIs w g (fun k => X k ∧ k < w.heap.size) s := h.more fun k h1 h2 => ⟨h1, h2⟩
  have HX := Aside.mk (RX.start (e1 := e1) (e2 := e2) (e3 := e3) h' hr hf hg)
  have H0 := Aside.mk (And.intro h' (And.intro hn hng))
  have HGL := Aside.mk h.lt
  have HXX := Aside.mk hX
  have HST := Aside.mk hst
  have HBS := Aside.mk hbase
  have H60 := Aside.mk h60
  have HFV := Aside.mk hfv
  have HK := Aside.mk hk
  have ED := Aside.mk (doS_need (s := s) hk)
  have k1 : (o.kind == 1) = false := by rw [hk]; rfl
  have k2 : (o.kind == 2) = false := by rw [hk]; rfl
  have k3 : (o.kind == 3) = false := by rw [hk]; rfl
  have k4 : (o.kind == 4) = false := by rw [hk]; rfl
  have k5 : (o.kind == 5) = false := by rw [hk]; rfl
  have k6 : (o.kind == 6) = false := by rw [hk]; rfl
  have k7 : (o.kind == 7) = true := by rw [hk]; rfl
  clear h h' hX hn hng hr hf hg hk hst hbase h60 hfv
  unfold opVal
  go_enter Tryz.func37, Tryz.ntmps37
  go_upto_region 1 with fail
  generalize hw0 : (w.alloc _).alloc _ = w0
  have hx0 : RX w g (fun k => X k ∧ k < w.heap.size) Y s o B1 B2 B3 e1 e2 e3 w0 := by
    rw [← hw0]
    exact HX.out
  have HX1 := Aside.mk hx0
  clear hw0 hx0 HX
  obtain ⟨A1, c1, A2, c2, A3, c3, A4, c4, hc, r1, r2, r3, hnv⟩ := HX1.out.cells
  clear r1 r2 r3 hnv
  go_upto_region 33 with fail
  clear hc
  obtain ⟨A1, c1, A2, c2, A3, c3, hkw, hrs⟩ := HX1.out.kw
  have HKW := Aside.mk hkw
  have HRS := Aside.mk hrs
  clear hkw hrs
  go_cut [11, 12] (fun x y wx => x = .int .i64 (seesV s.up s.rules o.who) ∧ y = .int .i64 (seesErr s.up s.rules o.who) ∧ Aside (Below w0.heap.size w0 wx))
  case first =>
    go_region_held3 (fun w' => Kw w' g w.heap.size o B2 B3 e2 e3 (.slice A1 s.up.length c1) (.slice A2 s.rules.length c2) (.slice A3 s.l.length c3))
      (first | exact HKW.out | assumption)
      (first
       | (go_at_call 104; refine (refSees _ _ s.up _ _ s.rules o.who _ _ _ (HRS.out.1.2.below (below_drewN (Below.refl _ _) 1)) HRS.out.1.1 (HRS.out.2.1.2.below (below_drewN (Below.refl _ _) 1)) HRS.out.2.1.1).mono ?_; rintro e w3 ⟨rfl, hb⟩
          have hb3 := below_step (below_drewN (Below.refl _ _) 1) hb
          have hx := Kw.step HKW.out hb3
          have HB3 := Aside.mk hb3
          clear hb hb3))
    all_goals
      go_wp2_with fail
      go_meet
      exact ⟨rfl, rfl, HB3⟩
  case rest =>
    obtain ⟨rfl, rfl, HB1⟩ := hcut
    have HX2 := Aside.mk (HX1.out.below HB1.out)
    clear HKW HRS HX1 HB1
    have HSV := Aside.mk (sees_range s.up s.rules o.who)
    obtain ⟨se, hse⟩ : ∃ se, seesErr s.up s.rules o.who = se := ⟨_, rfl⟩
    have HSE := Aside.mk hse
    rw [hse]
    clear hse
    obtain ⟨A1, c1, A2, c2, A3, c3, A4, c4, hc, r1, r2, r3, hnv⟩ := HX2.out.cells
    clear r1 r2 r3 hnv
    by_cases p2 : se = 0
    case neg =>
      have hE : doS s o = (s, .err se) := by
        have e0 : needE s o = se := by rw [need_e, HSE.out, if_pos p2]
        rw [ED.out, e0, if_neg p2, if_neg p2]
        rfl
      have HE := Aside.mk hE
      have g3 : (se != 0) = true := by simp [p2]
      clear p2 hE
      go_wp2_with fail
      refine (refFail _ _).mono ?_
      rintro e w9 ⟨rfl, hb⟩
      have HX9 := Aside.mk (HX2.out.below hb)
      clear hb hc
      obtain ⟨A1, c1, A2, c2, A3, c3, A4, c4, hc, r1, r2, r3, hnv⟩ := HX9.out.cells
      clear r1 r2 r3 hnv
      go_wp2_with fail
      refine bodyPost_ret (v := .agg #[.int .i64 se, .slice none 0 0, .slice none 0 0, .slice none 0 0]) ?_ rfl (.not H0.out.1 HX9.out.bel H0.out.2.1 H0.out.2.2 HE.out)
      simp [results, Tryz.results37, go_sem, hc]
    case pos =>
      subst p2
      clear hc
      obtain ⟨A1', c1', A2', c2', A3', c3', A4', c4', hc', r1, r2, r3, _⟩ := HX2.out.cells
      clear r1 r2
      have hc := hc'
      have HR3 := Aside.mk r3
      clear r3 hc'
      go_wp2_with fail
      refine (refSeen _ _ s.l _ _ _ HR3.out.2 HST.out (Int.natCast_nonneg _)).mono ?_
      rintro e w3 ⟨v, rfl, ho, hb⟩
      obtain ⟨AS, cS, rfl⟩ := Sl.form ho.sl
      have HX3 := Aside.mk (HX2.out.below hb)
      clear ho hb hc HX2
      have HX2 := HX3
      clear HX3
      obtain ⟨A1, c1, A2, c2, A3, c3, A4, c4, hc, r1, r2, r3, hnv⟩ := HX2.out.cells
      clear r1 r2 r3 hnv
      have EN := Aside.mk (show needE s o = if s.notes.length = 60 then 2 else getErr s.l o.id by rw [need_e, HSE.out, if_neg (by simp)])
      by_cases p3 : s.notes.length = 60
      · have HE := Aside.mk (show doS s o = (s, .err 2) by
          have e0 : needE s o = 2 := by rw [EN.out, if_pos p3]
          rw [ED.out, e0]; rfl)
        have g4 : (59 : Int) < (s.notes.length : Int) := by omega
        clear p3
        go_wp2_with fail
        refine (refFail _ _).mono ?_
        rintro e w9 ⟨rfl, hb⟩
        have HX9 := Aside.mk (HX2.out.below hb)
        clear hb hc
        obtain ⟨A1, c1, A2, c2, A3, c3, A4, c4, hc, r1, r2, r3, hnv⟩ := HX9.out.cells
        clear r1 r2 r3 hnv
        go_wp2_with fail
        refine bodyPost_ret (v := .agg #[.int .i64 2, .slice none 0 0, .slice none 0 0, .slice none 0 0]) ?_ rfl (.not H0.out.1 HX9.out.bel H0.out.2.1 H0.out.2.2 HE.out)
        simp [results, Tryz.results37, go_sem, hc]
      · have g4 : ¬ ((59 : Int) < (s.notes.length : Int)) := by have := H60.out; omega
        have HLN := Aside.mk (show (s.notes.length + 1) * 40 ≤ 140737488355328 by have := H60.out; omega)
        have EN2 := Aside.mk (show needE s o = getErr s.l o.id by rw [EN.out, if_neg p3])
        clear p3 EN
        go_upto_region 53 with fail
        clear hc
        obtain ⟨A1, c1, A2, c2, A3, c3, hkw, hrs⟩ := HX2.out.kw
        have HKW := Aside.mk hkw
        have HRS := Aside.mk hrs
        clear hkw hrs
        generalize hww : w3 = wd at *
        clear hww
        go_cut [16] (fun x wx => x = .int .i64 (getI s.l o.id) ∧ Aside (Below wd.heap.size wd wx))
        case first =>
          go_region_held3 (fun w' => Kw w' g w.heap.size o B2 B3 e2 e3 (.slice A1 s.up.length c1) (.slice A2 s.rules.length c2) (.slice A3 s.l.length c3))
            (first | exact HKW.out | assumption)
            (first
             | (go_at_call 32; refine (refGet _ _ _ s.l o.id _ _ (HRS.out.2.2.2.below (below_drewN (Below.refl _ _) 1)) rfl).mono ?_; rintro e w3 ⟨rfl, hb⟩
                have hb3 := below_step (below_drewN (Below.refl _ _) 1) hb
                have hx := Kw.step HKW.out hb3
                have HB3 := Aside.mk hb3
                clear hb hb3))
          all_goals
            go_wp2_with fail
            go_meet
            exact ⟨rfl, HB3⟩
        case rest =>
          obtain ⟨rfl, HB2⟩ := hcut
          have HX3 := Aside.mk (HX2.out.below HB2.out)
          clear HKW HRS HX2 HB2
          have hlt := getI_lt s.l o.id
          obtain ⟨A1, c1, A2, c2, A3, c3, A4, c4, hc, r1, r2, r3, hnv⟩ := HX3.out.cells
          clear r1 r2 r3 hnv
          by_cases p4 : 0 ≤ getI s.l o.id
          · obtain ⟨j, hj⟩ : ∃ j : Nat, getI s.l o.id = j := ⟨(getI s.l o.id).toNat, by omega⟩
            have hjl : j < s.l.length := by omega
            have HJ := Aside.mk (one_hit HST.out hjl hj)
            have HE := Aside.mk (show needE s o = 0 by rw [EN2.out]; exact (get_hit HST.out hjl hj).1)
            rw [hj]
            clear hj hlt p4 hc
            have h4 : (j : Int) < 6000 := by have := (store_ok HST.out).1; omega
            have HNN := Aside.mk (show NOwn wc base s.nv s.notes from H0.out.2.1.below HX3.out.bel)
            have HNX := Aside.mk (show NX wc g base w.heap.size (fun k => X k ∧ k < w.heap.size) s (opC o B1 e1 B2 e2 B3 e3) wc from ⟨HX3.out.srv, HNN.out, HX3.out.bo, Below.refl _ _⟩)
            obtain ⟨A1, c1, A2, c2, A3, c3, A4, c4, hkn, _, _, _, hnv⟩ := HNX.out.kn
            have hal := (Below.refl wc.heap.size wc).alloc (Nat.le_refl _) (.cells #[.int .i64 o.who.role, .int .i64 o.who.why, .int .i64 o.who.time, .string o.id] 116)
            have hk2 := hkn.step hal
            have HBA := Aside.mk (below_step hal (below_drewN (Below.refl _ _) 1))
            have HOA := Aside.mk (hnv ▸ HNN.out.below (below_step hal (below_drewN (Below.refl _ _) 1)))
            have HNV := Aside.mk hnv
            have HNL := Aside.mk (fun k hk => (H0.out.2.1.lt k hk).2)
            have HNL2 := Aside.mk (fun k hk => Nat.lt_of_lt_of_le (HNL.out k hk) HX3.out.bel.size)
            have HGL2 := Aside.mk (Nat.lt_of_lt_of_le HGL.out HX3.out.bel.size)
            clear hal hnv
            go_wp2_with fail
            go_region_law
              (refine step_one (w0 := _) nteR base rfl (.tmp 215) (.tmp 221) 43 116 _ 40 rfl Tryz.underlying43 infoNt rfl (by decide) (by decide) (.slice A4 s.notes.length c4) s.notes ⟨o.who, o.id⟩ [.int .i64 o.who.role, .int .i64 o.who.why, .int .i64 o.who.time, .string o.id] (fun _ => False) wc.heap.size 1 rfl rfl (blk_new wc _ _) (nteK.2 rfl) HOA.out (Below.refl _ _) (Nat.le_trans HBS.out (Nat.le_trans HX3.out.bel.size HBA.out.size)) HLN.out ?_
               intro v2 w3 hO2 _ hg2 hat2
               obtain ⟨X3, d3, rfl⟩ := Sl.form hO2.sl
               rw [← HNV.out] at hg2 hat2
               have hfin := (needed_ok (F := fun k => X k ∧ k < w.heap.size) HK.out HE.out HNX.out (fun k hk => HXX.out k hk.1) H0.out.2.2 HGL2.out HNL2.out HBA.out hg2 hO2 hat2 rfl (Sl.nil verR wc (fun k => wc.heap.size ≤ k))).1
               rw [show (s.notes ++ [(⟨o.who, o.id⟩ : Nte)]).length = s.notes.length + 1 by simp] at hfin
               have hga2 : w3.heap[g]? = wc.heap[g]? := (hg2.block g (Nat.lt_of_lt_of_le HX3.out.srv.lt HBA.out.size) (fun e => H0.out.2.2 g e.symm rfl)).trans (HBA.out.block g HX3.out.srv.lt)
               have z3 : w3.cell? ⟨g, 3, none⟩ = some (.slice A4 s.notes.length c4) := (World.cell?_of_block (w := wc) (w' := w3) (a := ⟨g, 3, none⟩) hga2).trans hkn.2.2.2.1
               have fz3 : w3.frozen? ⟨g, 3, none⟩ = false := HNX.out.frz hga2
               have HFIN := Aside.mk hfin
               clear hO2 hg2 hat2 hfin hga2)
            all_goals
              generalize w3.setCell ⟨g, 3, none⟩ (.slice X3 (s.notes.length + 1) d3) = W5 at *
              clear z3 fz3 hkn hk2
              obtain ⟨B1', f1, B2', f2, B3', f3, q3, hl3, hlr, q4, q5⟩ := need_cells HK.out HFIN.out HX3.out.b1 (fun e => by have := HGL.out; omega) (fun k hk e => by have := HNL.out k hk; omega)
              have HLR := Aside.mk hlr
              have h1 : (j : Int) + 1 ≤ (s.l.length : Int) := by omega
              have h2 : (j : Int) + 1 ≤ (f3 : Int) := by omega
              have h3 : ¬ (f3 = j) := by omega
              clear hlr
              go_wp2_with fail
              refine bodyPost_ret (v := .agg #[.int .i64 0, .slice (B3'.map (fun x => x.add (j * 5))) 1 (f3 - j), .slice none 0 0, .slice none 0 0]) ?_ rfl (.need HK.out HE.out HX3.out.bel HX3.out.sz HFIN.out HJ.out (one_cut HLR.out hjl (by omega)) HGL.out HNL.out)
              simp [results, Tryz.results37, go_sem, q5]
          · have h5 := one_none HST.out (show getI s.l o.id = -1 by omega)
            have hE : doS s o = (s, .err 4) := by
              have e0 : needE s o = 4 := by rw [EN2.out, h5.2]
              rw [ED.out, e0]; rfl
            have HE := Aside.mk hE
            clear h5 hE hlt
            go_wp2_with fail
            refine (refFail _ _).mono ?_
            rintro e w9 ⟨rfl, hb⟩
            have HX9 := Aside.mk (HX3.out.below hb)
            clear hb hc
            obtain ⟨A1, c1, A2, c2, A3, c3, A4, c4, hc, r1, r2, r3, hnv⟩ := HX9.out.cells
            clear r1 r2 r3 hnv
            go_wp2_with fail
            refine bodyPost_ret (v := .agg #[.int .i64 4, .slice none 0 0, .slice none 0 0, .slice none 0 0]) ?_ rfl (.not H0.out.1 HX9.out.bel H0.out.2.1 H0.out.2.2 HE.out)
            simp [results, Tryz.results37, go_sem, hc]
set_option maxHeartbeats 8000000 in
set_option maxRecDepth 100000 in
theorem rdAudit (g base : Nat) (X Y : Nat → Prop) (s : Srv) (o : OpV) (hk : o.kind = 8) (B1 : Option Addr) (e1 : Nat) (B2 : Option Addr) (e2 : Nat) (B3 : Option Addr) (e3 : Nat) (w : World) (h : SrvIs w g X s) (hX : ∀ k, X k → k ≠ g ∧ some k ≠ s.nv.ownBlock) (hn : NOwn w base s.nv s.notes) (hbase : base ≤ w.heap.size) (hng : ∀ k, s.nv.ownBlock = some k → k ≠ g) (hst : storeErr s.l = 0) (h60 : s.notes.length ≤ 60) (hfv : o.f.val.size ≤ 9223372036854775807)
    (hr : rulR.Row w Y B1 o.rules) (hf : fldR.Row w Y B2 o.r.fields) (hg : str.Row w Y B3 o.r.refs) :
    Calls Tryz.prog 37 #[.pointer (some ⟨g, 0, none⟩), opVal o B1 e1 B2 e2 B3 e3] w (DidN w g base X s o) := by
  have h' : SrvIs w g (fun k => X k ∧ k < w.heap.size) s := h.more fun k h1 h2 => ⟨h1, h2⟩
  have HX := Aside.mk (RX.start (e1 := e1) (e2 := e2) (e3 := e3) h' hr hf hg)
  have H0 := Aside.mk (And.intro h' (And.intro hn hng))
  have HGL := Aside.mk h.lt
  have HXX := Aside.mk hX
  have HST := Aside.mk hst
  have HBS := Aside.mk hbase
  have H60 := Aside.mk h60
  have HFV := Aside.mk hfv
  have HK := Aside.mk hk
  have ED := Aside.mk (doS_audit (s := s) hk)
  have k1 : (o.kind == 1) = false := by rw [hk]; rfl
  have k2 : (o.kind == 2) = false := by rw [hk]; rfl
  have k3 : (o.kind == 3) = false := by rw [hk]; rfl
  have k4 : (o.kind == 4) = false := by rw [hk]; rfl
  have k5 : (o.kind == 5) = false := by rw [hk]; rfl
  have k6 : (o.kind == 6) = false := by rw [hk]; rfl
  have k7 : (o.kind == 7) = false := by rw [hk]; rfl
  have k8 : (o.kind == 8) = true := by rw [hk]; rfl
  clear h h' hX hn hng hr hf hg hk hst hbase h60 hfv
  unfold opVal
  go_enter Tryz.func37, Tryz.ntmps37
  go_upto_region 1 with fail
  generalize hw0 : (w.alloc _).alloc _ = w0
  have hx0 : RX w g (fun k => X k ∧ k < w.heap.size) Y s o B1 B2 B3 e1 e2 e3 w0 := by
    rw [← hw0]
    exact HX.out
  have HX1 := Aside.mk hx0
  clear hw0 hx0 HX
  obtain ⟨A1, c1, A2, c2, A3, c3, A4, c4, hc, r1, r2, r3, hnv⟩ := HX1.out.cells
  clear r1 r2 r3 hnv
  go_upto_region 33 with fail
  clear hc
  obtain ⟨A1, c1, A2, c2, A3, c3, hkw, hrs⟩ := HX1.out.kw
  have HKW := Aside.mk hkw
  have HRS := Aside.mk hrs
  clear hkw hrs
  go_cut [11, 12] (fun x y wx => x = .int .i64 (seesV s.up s.rules o.who) ∧ y = .int .i64 (seesErr s.up s.rules o.who) ∧ Aside (Below w0.heap.size w0 wx))
  case first =>
    go_region_held3 (fun w' => Kw w' g w.heap.size o B2 B3 e2 e3 (.slice A1 s.up.length c1) (.slice A2 s.rules.length c2) (.slice A3 s.l.length c3))
      (first | exact HKW.out | assumption)
      (first
       | (go_at_call 104; refine (refSees _ _ s.up _ _ s.rules o.who _ _ _ (HRS.out.1.2.below (below_drewN (Below.refl _ _) 1)) HRS.out.1.1 (HRS.out.2.1.2.below (below_drewN (Below.refl _ _) 1)) HRS.out.2.1.1).mono ?_; rintro e w3 ⟨rfl, hb⟩
          have hb3 := below_step (below_drewN (Below.refl _ _) 1) hb
          have hx := Kw.step HKW.out hb3
          have HB3 := Aside.mk hb3
          clear hb hb3))
    all_goals
      go_wp2_with fail
      go_meet
      exact ⟨rfl, rfl, HB3⟩
  case rest =>
    obtain ⟨rfl, rfl, HB1⟩ := hcut
    have HX2 := Aside.mk (HX1.out.below HB1.out)
    clear HKW HRS HX1 HB1
    have HSV := Aside.mk (sees_range s.up s.rules o.who)
    obtain ⟨se, hse⟩ : ∃ se, seesErr s.up s.rules o.who = se := ⟨_, rfl⟩
    have HSE := Aside.mk hse
    rw [hse]
    clear hse
    obtain ⟨A1, c1, A2, c2, A3, c3, A4, c4, hc, r1, r2, r3, hnv⟩ := HX2.out.cells
    clear r1 r2 r3
    have hnv' := hnv
    clear hnv
    by_cases p2 : se = 0
    case neg =>
      have hE : doS s o = (s, .err se) := by
        rw [ED.out, auditT, HSE.out, if_pos p2]
      have HE := Aside.mk hE
      have g3 : (se != 0) = true := by simp [p2]
      clear p2 hE
      go_wp2_with fail
      refine (refFail _ _).mono ?_
      rintro e w9 ⟨rfl, hb⟩
      have HX9 := Aside.mk (HX2.out.below hb)
      clear hb hc
      obtain ⟨A1, c1, A2, c2, A3, c3, A4, c4, hc, r1, r2, r3, hnv⟩ := HX9.out.cells
      clear r1 r2 r3 hnv
      go_wp2_with fail
      refine bodyPost_ret (v := .agg #[.int .i64 se, .slice none 0 0, .slice none 0 0, .slice none 0 0]) ?_ rfl (.not H0.out.1 HX9.out.bel H0.out.2.1 H0.out.2.2 HE.out)
      simp [results, Tryz.results37, go_sem, hc]
    case pos =>
      subst p2
      clear hc
      obtain ⟨A1', c1', A2', c2', A3', c3', A4', c4', hc', r1, r2, r3, _⟩ := HX2.out.cells
      clear r1 r2
      have hc := hc'
      have HR3 := Aside.mk r3
      clear r3 hc'
      go_wp2_with fail
      refine (refSeen _ _ s.l _ _ _ HR3.out.2 HST.out (Int.natCast_nonneg _)).mono ?_
      rintro e w3 ⟨v, rfl, ho, hb⟩
      obtain ⟨AS, cS, rfl⟩ := Sl.form ho.sl
      have HX3 := Aside.mk (HX2.out.below hb)
      clear ho hb hc HX2
      have HX2 := HX3
      clear HX3
      obtain ⟨A1, c1, A2, c2, A3, c3, A4, c4, hc, r1, r2, r3, hnv⟩ := HX2.out.cells
      clear r1 r2 r3
      have hnv' := hnv
      clear hnv
      generalize hsv : seesV s.up s.rules o.who = sv at *
      by_cases p3 : (sv : Int) = 255
      · have HE := Aside.mk (show doS s o = (s, ⟨0, [], [], s.notes⟩) by rw [ED.out, auditT, HSE.out, hsv, if_neg (by simp), if_neg (by simpa using p3)])
        have g4 : ((sv : Int) != 255) = false := by simp [p3]
        have HNR := Aside.mk (show nteR.Row w3 (fun _ => True) A4 s.notes from (hnv' ▸ H0.out.2.1.below HX2.out.bel).row.2.2.mono fun _ _ _ => trivial)
        have HLN := Aside.mk (show s.notes.length * 40 ≤ 140737488355328 by have := H60.out; omega)
        clear p3
        go_wp2_with fail
        refine (cloneN _ _ s.notes _ _ HNR.out HLN.out).mono ?_
        rintro e w2 ⟨v, rfl, ho, hb⟩
        have HX3 := Aside.mk (HX2.out.below hb)
        have HV := Aside.mk ((own_nte ho).sl.mono (ok' := Zw w) fun k hk _ => .inr (Nat.lt_of_lt_of_le (Nat.lt_of_lt_of_le (Nat.lt_succ_self _) HX2.out.sz) (ho.lt k (hk.elim False.elim id)).1))
        obtain ⟨Y9, d9, rfl⟩ := Sl.form ho.sl
        clear hb ho hc
        obtain ⟨A1, c1, A2, c2, A3, c3, A4, c4, hc, r1, r2, r3, hnv⟩ := HX3.out.cells
        clear r1 r2 r3 hnv
        go_wp2_with fail
        refine bodyPost_ret (v := .agg #[.int .i64 0, .slice none 0 0, .slice none 0 0, .slice Y9 s.notes.length d9]) ?_ rfl (.tell (t := ⟨0, [], [], s.notes⟩) H0.out.1 HX3.out.bel H0.out.2.1 H0.out.2.2 HE.out (Sl.nil _ _ _) (Sl.nil _ _ _) HV.out)
        simp [results, Tryz.results37, go_sem, hc]
      · have HE := Aside.mk (show doS s o = (s, .err 6) by rw [ED.out, auditT, HSE.out, hsv, if_neg (by simp), if_pos p3])
        have g4 : ((sv : Int) != 255) = true := by simp [p3]
        clear p3
        go_wp2_with fail
        refine (refFail _ _).mono ?_
        rintro e w9 ⟨rfl, hb⟩
        have HX9 := Aside.mk (HX2.out.below hb)
        clear hb hc
        obtain ⟨A1, c1, A2, c2, A3, c3, A4, c4, hc, r1, r2, r3, hnv⟩ := HX9.out.cells
        clear r1 r2 r3 hnv
        go_wp2_with fail
        refine bodyPost_ret (v := .agg #[.int .i64 6, .slice none 0 0, .slice none 0 0, .slice none 0 0]) ?_ rfl (.not H0.out.1 HX9.out.bel H0.out.2.1 H0.out.2.2 HE.out)
        simp [results, Tryz.results37, go_sem, hc]
set_option maxHeartbeats 8000000 in
set_option maxRecDepth 100000 in
theorem rdOther (g base : Nat) (X Y : Nat → Prop) (s : Srv) (o : OpV) (hk : ¬ (1 ≤ o.kind ∧ o.kind ≤ 8)) (B1 : Option Addr) (e1 : Nat) (B2 : Option Addr) (e2 : Nat) (B3 : Option Addr) (e3 : Nat) (w : World) (h : SrvIs w g X s) (hn : NOwn w base s.nv s.notes) (hng : ∀ k, s.nv.ownBlock = some k → k ≠ g)
    (hr : rulR.Row w Y B1 o.rules) (hf : fldR.Row w Y B2 o.r.fields) (hg : str.Row w Y B3 o.r.refs) :
    Calls Tryz.prog 37 #[.pointer (some ⟨g, 0, none⟩), opVal o B1 e1 B2 e2 B3 e3] w (DidN w g base X s o) := by
  have h' : SrvIs w g (fun k => X k ∧ k < w.heap.size) s := h.more fun k h1 h2 => ⟨h1, h2⟩
  have HX := Aside.mk (RX.start (e1 := e1) (e2 := e2) (e3 := e3) h' hr hf hg)
  have H0 := Aside.mk (And.intro h' (And.intro hn hng))
  have HE := Aside.mk (doS_other (s := s) hk)
  have k1 : (o.kind == 1) = false := beq_eq_false_iff_ne.2 (by omega)
  have k2 : (o.kind == 2) = false := beq_eq_false_iff_ne.2 (by omega)
  have k3 : (o.kind == 3) = false := beq_eq_false_iff_ne.2 (by omega)
  have k4 : (o.kind == 4) = false := beq_eq_false_iff_ne.2 (by omega)
  have k5 : (o.kind == 5) = false := beq_eq_false_iff_ne.2 (by omega)
  have k6 : (o.kind == 6) = false := beq_eq_false_iff_ne.2 (by omega)
  have k7 : (o.kind == 7) = false := beq_eq_false_iff_ne.2 (by omega)
  have k8 : (o.kind == 8) = false := beq_eq_false_iff_ne.2 (by omega)
  clear h h' hn hng hr hf hg hk
  unfold opVal
  go_enter Tryz.func37, Tryz.ntmps37
  go_upto_region 1 with fail
  generalize hw0 : (w.alloc _).alloc _ = w0
  have hx0 : RX w g (fun k => X k ∧ k < w.heap.size) Y s o B1 B2 B3 e1 e2 e3 w0 := by
    rw [← hw0]
    exact HX.out
  have HX1 := Aside.mk hx0
  clear hw0 hx0 HX
  obtain ⟨A1, c1, A2, c2, A3, c3, A4, c4, hc, r1, r2, r3, hnv⟩ := HX1.out.cells
  clear r1 r2 r3 hnv
  go_wp2_with fail
  refine (refFail _ _).mono ?_
  rintro e w9 ⟨rfl, hb⟩
  have HX9 := Aside.mk (HX1.out.below hb)
  clear hb hc
  obtain ⟨A1, c1, A2, c2, A3, c3, A4, c4, hc, r1, r2, r3, hnv⟩ := HX9.out.cells
  clear r1 r2 r3 hnv
  go_wp2_with fail
  refine bodyPost_ret (v := .agg #[.int .i64 3, .slice none 0 0, .slice none 0 0, .slice none 0 0]) ?_ rfl (.not H0.out.1 HX9.out.bel H0.out.2.1 H0.out.2.2 HE.out)
  simp [results, Tryz.results37, go_sem, hc]
end Go.Proofs.WK
