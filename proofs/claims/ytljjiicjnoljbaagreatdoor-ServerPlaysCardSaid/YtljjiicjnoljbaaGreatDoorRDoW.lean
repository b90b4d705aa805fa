/-
  (*wyref.Server).Do (P37, P38): put, cut.
-/
import Derived.Test.YtljjiicjnoljbaaGreatDoorRDo
import Derived.Deep.RegionHeld3
namespace Go.Proofs.WK
open Go.RowKit Rp
/-- The list of versions is another from now on. -/
theorem DidN.put {w w1 : World} {g base : Nat} {X : Nat → Prop} {s : Srv} {o : OpV} {c d e f v : Value} {l : List Ver} (hk : o.kind ≠ 7) (hX : ∀ k, X k → k ≠ g) (hs : SrvIs w1 g (fun k => (X k ∧ k < w.heap.size) ∨ (w.heap.size + 1 < k)) s) (hv : verR.Sl w1 (fun k => (X k ∧ k < w.heap.size) ∨ (w.heap.size + 1 < k)) v l) (hgl : g < w.heap.size) (hb : Below w.heap.size w w1) (hn : NOwn w base s.nv s.notes) (hng : ∀ k, s.nv.ownBlock = some k → k ≠ g) (he : doS s o = ({ s with l := l }, .err 0)) :
    DidN w g base X s o (.returned (.agg #[.int .i64 0, .slice none 0 0, .slice none 0 0, .slice none 0 0])) (((((w1.setCell ⟨g, 2, none⟩ v).setCell ⟨w.heap.size + 1, 0, none⟩ c).setCell ⟨w.heap.size + 1, 1, none⟩ d).setCell ⟨w.heap.size + 1, 2, none⟩ e).setCell ⟨w.heap.size + 1, 3, none⟩ f) := by
  have h1 := hs.setL (fun k hk => hk.elim (fun h => hX k h.1) fun h => by omega) hv
  have hg1 := (below_grown hb (some g)).trans (grown_set w1 g 2 v)
  refine .quiet hk (by rw [he]; rfl) ?_ ?_ ?_ ?_ hn hng (grown_new (grown_new (grown_new (grown_new hg1 (by omega) _ _) (by omega) _ _) (by omega) _ _) (by omega) _ _)
  · rw [he]; exact Sl.nil _ _ _
  · rw [he]; exact Sl.nil _ _ _
  · rw [he]; exact Sl.nil _ _ _
  · rw [he]
    refine (srv_chg h1 (told4_chg (S := fun k => k = w.heap.size + 1) rfl) (by omega) (fun k hk e => ?_)).more fun k hk _ => hk.imp id fun h => by omega
    rcases hk with h | h
    · have := h.2; omega
    · omega
abbrev Kw (W : World) (g n : Nat) (o : OpV) (B2 B3 : Option Addr) (e2 e3 : Nat) (v1 v2 v3 : Value) : Prop :=
  W.cell? { block := g, off := 0 } = some v1 ∧ W.cell? { block := g, off := 1 } = some v2 ∧ W.cell? { block := g, off := 2 } = some v3 ∧ W.cell? ⟨n, 1, none⟩ = some (.int .i64 o.who.role) ∧ W.cell? ⟨n, 2, none⟩ = some (.int .i64 o.who.why) ∧ W.cell? ⟨n, 3, none⟩ = some (.int .i64 o.who.time) ∧
  W.cell? ⟨n, 5, none⟩ = some (.string o.r.id) ∧ W.cell? ⟨n, 6, none⟩ = some (.int .i64 o.r.cats) ∧ W.cell? ⟨n, 7, none⟩ = some (.slice B2 o.r.fields.length e2) ∧ W.cell? ⟨n, 8, none⟩ = some (.slice B3 o.r.refs.length e3) ∧ W.cell? ⟨n, 9, none⟩ = some (.string o.id)
theorem Kw.step {W W' : World} {g n : Nat} {o : OpV} {B2 B3 : Option Addr} {e2 e3 : Nat} {v1 v2 v3 : Value} (h : Kw W g n o B2 B3 e2 e3 v1 v2 v3) (hb : Below W.heap.size W W') : Kw W' g n o B2 B3 e2 e3 v1 v2 v3 := by
  obtain ⟨h1, h2, h3, h4, h5, h6, h7, h8, h9, h10, h11⟩ := h
  exact ⟨cell_below hb h1, cell_below hb h2, cell_below hb h3, cell_below hb h4, cell_below hb h5, cell_below hb h6, cell_below hb h7, cell_below hb h8, cell_below hb h9, cell_below hb h10, cell_below hb h11⟩
theorem RX.kw {w W : World} {g : Nat} {F Y : Nat → Prop} {s : Srv} {o : OpV} {B1 B2 B3 : Option Addr} {e1 e2 e3 : Nat} (h : RX w g F Y s o B1 B2 B3 e1 e2 e3 W) : ∃ A1 c1 A2 c2 A3 c3, Kw W g w.heap.size o B2 B3 e2 e3 (.slice A1 s.up.length c1) (.slice A2 s.rules.length c2) (.slice A3 s.l.length c3) ∧
    ((s.up.length ≤ 9223372036854775807 ∧ int.Row W F A1 s.up) ∧ (s.rules.length ≤ 9223372036854775807 ∧ rulR.Row W F A2 s.rules) ∧ (s.l.length ≤ c3 ∧ verR.Row W F A3 s.l)) := by
  obtain ⟨A1, c1, A2, c2, A3, c3, A4, c4, h0, h1, h2, h3, h4⟩ := h.srv
  exact ⟨A1, c1, A2, c2, A3, c3, ⟨h0.cell 0, h0.cell 1, h0.cell 2, h.bo.cell 1, h.bo.cell 2, h.bo.cell 3, h.bo.cell 5, h.bo.cell 6, h.bo.cell 7, h.bo.cell 8, h.bo.cell 9⟩, ⟨h1.2.1, h1.2⟩, ⟨h2.2.1, h2.2⟩, h3⟩
set_option maxHeartbeats 8000000 in
set_option maxRecDepth 100000 in
theorem rdPut (g base : Nat) (X Y : Nat → Prop) (s : Srv) (o : OpV) (hk : o.kind = 2) (B1 : Option Addr) (e1 : Nat) (B2 : Option Addr) (e2 : Nat) (B3 : Option Addr) (e3 : Nat) (w : World) (h : SrvIs w g X s) (hX : ∀ k, X k → k ≠ g ∧ some k ≠ s.nv.ownBlock) (hY : ∀ k, Y k → X k ∧ k < w.heap.size) (hn : NOwn w base s.nv s.notes) (hng : ∀ k, s.nv.ownBlock = some k → k ≠ g) (hst : storeErr s.l = 0) (hwf : RecWf o.r)
    (hr : rulR.Row w Y B1 o.rules) (hf : fldR.Row w Y B2 o.r.fields) (hf2 : o.r.fields.length ≤ e2) (hg : str.Row w Y B3 o.r.refs) (hg2 : o.r.refs.length ≤ e3) :
    Calls Tryz.prog 37 #[.pointer (some ⟨g, 0, none⟩), opVal o B1 e1 B2 e2 B3 e3] w (DidN w g base X s o) := by
  have h' : SrvIs w g (fun k => X k ∧ k < w.heap.size) s := h.more fun k h1 h2 => ⟨h1, h2⟩
  have HX := Aside.mk (RX.start (e1 := e1) (e2 := e2) (e3 := e3) h' hr hf hg)
  have H0 := Aside.mk (And.intro h' (And.intro hn hng))
  have HGL := Aside.mk h.lt
  have HYX := Aside.mk hY
  have HXX := Aside.mk hX
  have HF2 := Aside.mk (And.intro hf2 hg2)
  have HST := Aside.mk hst
  have HWF := Aside.mk hwf
  have HK := Aside.mk hk
  have ED := Aside.mk (doS_put (s := s) hk)
  have k1 : (o.kind == 1) = false := by rw [hk]; rfl
  have k2 : (o.kind == 2) = true := by rw [hk]; rfl
  have k3 : (o.kind == 3) = false := by rw [hk]; rfl
  clear h h' hX hY hn hng hr hf hf2 hg hg2 hk hst hwf
  unfold opVal
  go_enter Tryz.func37, Tryz.ntmps37
  go_upto_region 1 with fail
  generalize hw0 : (w.alloc _).alloc _ = w0
  have hx0 : RX w g (fun k => X k ∧ k < w.heap.size) Y s o B1 B2 B3 e1 e2 e3 w0 := by
    rw [← hw0]
    exact HX.out
  have HX := Aside.mk hx0
  clear hw0 hx0
  obtain ⟨A1, c1, A2, c2, A3, c3, A4, c4, hc, r1, r2, r3, hnv⟩ := HX.out.cells
  clear r1 r2 r3 hnv
  go_wp2_with fail
  refine (refRecord o.r B2 B3 e2 e3 _ _ HWF.out _ HX.out.f HX.out.g).mono ?_
  rintro e w1 ⟨rfl, hb⟩
  have HX1 := Aside.mk (HX.out.below hb)
  clear hb hc HX
  obtain ⟨A1, c1, A2, c2, A3, c3, A4, c4, hc, r1, r2, r3, hnv⟩ := HX1.out.cells
  clear r1 r2 r3 hnv
  by_cases p1 : recErr o.r = 0
  case neg =>
    have hE : doS s o = (s, .err (recErr o.r)) := by
      have e0 : putE s o = recErr o.r := by rw [putE, if_pos p1]
      rw [ED.out, e0, if_neg p1]
    have HE := Aside.mk hE
    have g3 : (recErr o.r != 0) = true := by simp [p1]
    clear p1 hE
    go_wp2_with fail
    refine (refFail _ _).mono ?_
    rintro e w9 ⟨rfl, hb⟩
    have HX9 := Aside.mk (HX1.out.below hb)
    clear hb hc
    obtain ⟨A1, c1, A2, c2, A3, c3, A4, c4, hc, r1, r2, r3, hnv⟩ := HX9.out.cells
    clear r1 r2 r3 hnv
    go_wp2_with fail
    refine bodyPost_ret (v := .agg #[.int .i64 (recErr o.r), .slice none 0 0, .slice none 0 0, .slice none 0 0]) ?_ rfl (.no (by rw [HK.out]; decide) H0.out.1 HX9.out.bel H0.out.2.1 H0.out.2.2 HE.out)
    simp [results, Tryz.results37, go_sem, hc]
  case pos =>
    have P1 := Aside.mk p1
    rw [p1]
    clear p1
    go_upto_region 16 with fail
    clear hc
    obtain ⟨A1, c1, A2, c2, A3, c3, hkw, hrs⟩ := HX1.out.kw
    have HKW := Aside.mk hkw
    have HRS := Aside.mk hrs
    clear hkw hrs
    generalize hww : w1 = ww at *
    clear hww
    go_cut [8, 9] (fun x y wx => x = .bool (mayV s.up s.rules o.who o.r.cats) ∧ y = .int .i64 (mayErr s.up s.rules o.who o.r.cats) ∧ Aside (Below ww.heap.size ww wx))
    case first =>
      go_region_held3 (fun w' => Kw w' g w.heap.size o B2 B3 e2 e3 (.slice A1 s.up.length c1) (.slice A2 s.rules.length c2) (.slice A3 s.l.length c3))
        (first | exact HKW.out | assumption)
        (first
         | (go_at_call 101; refine (refMay _ _ s.up _ _ s.rules o.who o.r.cats _ _ _ (HRS.out.1.2.below (below_drewN (Below.refl _ _) 1)) HRS.out.1.1 (HRS.out.2.1.2.below (below_drewN (Below.refl _ _) 1)) HRS.out.2.1.1).mono ?_; rintro e w3 ⟨rfl, hb⟩
            have hb3 := below_step (below_drewN (Below.refl _ _) 1) hb
            have hx := Kw.step HKW.out hb3
            have HB3 := Aside.mk hb3
            clear hb hb3))
      all_goals
        go_wp2_with fail
        go_meet
        exact ⟨rfl, rfl, HB3⟩
    case rest =>
      obtain ⟨rfl, rfl, HB1⟩ := hcut
      have HX2 := Aside.mk (HX1.out.below HB1.out)
      clear HKW HRS HX1 HB1
      obtain ⟨me, hme⟩ : ∃ me, mayErr s.up s.rules o.who o.r.cats = me := ⟨_, rfl⟩
      obtain ⟨mv, hmv⟩ : ∃ mv, mayV s.up s.rules o.who o.r.cats = mv := ⟨_, rfl⟩
      have e0 : putE s o = if me ≠ 0 then me else if mv = false then 6 else putErr s.l o.r := by rw [putE, if_neg (by simpa using P1.out), hme, hmv]
      rw [hme, hmv]
      clear hme hmv
      obtain ⟨A1, c1, A2, c2, A3, c3, A4, c4, hc, r1, r2, r3, hnv⟩ := HX2.out.cells
      clear r1 r2 r3 hnv
      by_cases p2 : me = 0
      case neg =>
        have hE : doS s o = (s, .err me) := by
          rw [if_pos p2] at e0
          rw [ED.out, e0, if_neg p2]
        have HE := Aside.mk hE
        have g3 : (me != 0) = true := by simp [p2]
        clear p2 hE e0
        go_wp2_with fail
        refine (refFail _ _).mono ?_
        rintro e w9 ⟨rfl, hb⟩
        have HX9 := Aside.mk (HX2.out.below hb)
        clear hb hc
        obtain ⟨A1, c1, A2, c2, A3, c3, A4, c4, hc, r1, r2, r3, hnv⟩ := HX9.out.cells
        clear r1 r2 r3 hnv
        go_wp2_with fail
        refine bodyPost_ret (v := .agg #[.int .i64 me, .slice none 0 0, .slice none 0 0, .slice none 0 0]) ?_ rfl (.no (by rw [HK.out]; decide) H0.out.1 HX9.out.bel H0.out.2.1 H0.out.2.2 HE.out)
        simp [results, Tryz.results37, go_sem, hc]
      case pos =>
        subst p2
        cases mv with
        | false =>
          have hE : doS s o = (s, .err 6) := by
            rw [if_neg (by simp), if_pos rfl] at e0
            rw [ED.out, e0, if_neg (by decide)]
          have HE := Aside.mk hE
          clear hE e0
          go_wp2_with fail
          refine (refFail _ _).mono ?_
          rintro e w9 ⟨rfl, hb⟩
          have HX9 := Aside.mk (HX2.out.below hb)
          clear hb hc
          obtain ⟨A1, c1, A2, c2, A3, c3, A4, c4, hc, r1, r2, r3, hnv⟩ := HX9.out.cells
          clear r1 r2 r3 hnv
          go_wp2_with fail
          refine bodyPost_ret (v := .agg #[.int .i64 6, .slice none 0 0, .slice none 0 0, .slice none 0 0]) ?_ rfl (.no (by rw [HK.out]; decide) H0.out.1 HX9.out.bel H0.out.2.1 H0.out.2.2 HE.out)
          simp [results, Tryz.results37, go_sem, hc]
        | true =>
          have e1' : putE s o = putErr s.l o.r := by rw [e0, if_neg (by simp), if_neg (by simp)]
          have EE := Aside.mk e1'
          clear e0 e1' hc
          go_upto_region 21 with fail
          obtain ⟨A1, c1, A2, c2, A3, c3, hkw, hrs⟩ := HX2.out.kw
          have HKW := Aside.mk hkw
          have HRS := Aside.mk hrs
          clear hkw hrs
          generalize hww : wc = wd at *
          clear hww
          go_cut [10, 9] (fun x y wx => y = .int .i64 (putErr s.l o.r) ∧ Aside (verR.Sl wx (fun k => (X k ∧ k < w.heap.size) ∨ (w.heap.size + 1 < k)) x (putV s.l o.r)) ∧ Aside (Below wd.heap.size wd wx))
          case first =>
            go_region_held3 (fun w' => Kw w' g w.heap.size o B2 B3 e2 e3 (.slice A1 s.up.length c1) (.slice A2 s.rules.length c2) (.slice A3 s.l.length c3))
              (first | exact HKW.out | assumption)
              (first
               | (go_at_call 102; refine (refPutZ _ _ s.l o.r _ _ _ _ (fun k => X k ∧ k < w.heap.size) Y Y (fun k => (X k ∧ k < w.heap.size) ∨ (w.heap.size + 1 < k)) (wd.drewN 1) (fun k hk => .inr (Nat.lt_of_lt_of_le (Nat.lt_of_lt_of_le (Nat.lt_succ_self _) HX2.out.sz) hk)) (fun k hk _ => .inl hk) (fun k hk _ => .inl (HYX.out k hk)) (fun k hk _ => .inl (HYX.out k hk)) HST.out HWF.out (HRS.out.2.2.2.below (below_drewN (Below.refl _ _) 1)) HRS.out.2.2.1 (HX2.out.f.below (below_drewN (Below.refl _ _) 1)) HF2.out.1 (HX2.out.g.below (below_drewN (Below.refl _ _) 1)) HF2.out.2).mono ?_; rintro e w3 ⟨v, rfl, hs, hb⟩
                  have hb3 := below_step (below_drewN (Below.refl _ _) 1) hb
                  have hx := Kw.step HKW.out hb3
                  have HB3 := Aside.mk hb3
                  have HV3 := Aside.mk hs
                  clear hb hb3 hs))
            all_goals
              go_wp2_with fail
              go_meet
              exact ⟨rfl, HV3, HB3⟩
          case rest =>
            obtain ⟨rfl, HV, HB2⟩ := hcut
            have HX3 := Aside.mk (HX2.out.below HB2.out)
            clear HKW HRS HX2 HB2
            obtain ⟨A1, c1, A2, c2, A3, c3, A4, c4, hc, r1, r2, r3, hnv⟩ := HX3.out.cells
            clear r1 r2 r3 hnv
            by_cases p3 : putErr s.l o.r = 0
            · have hE : doS s o = ({ s with l := putV s.l o.r }, .err 0) := by rw [ED.out, EE.out, if_pos p3, p3]
              have HE := Aside.mk hE
              obtain ⟨X9, d9, rfl⟩ := Sl.form HV.out
              rw [p3]
              clear p3 hE
              have hne : g ≠ w.heap.size + 1 := fun e => by have := HGL.out; omega
              have hne2 : w.heap.size + 1 ≠ g := fun e => hne e.symm
              have hne3 : w.heap.size ≠ g := fun e => by have := HGL.out; omega
              go_wp2_with fail
              refine bodyPost_ret (v := .agg #[.int .i64 0, .slice none 0 0, .slice none 0 0, .slice none 0 0]) ?_ rfl (.put (by rw [HK.out]; decide) (fun k hk => (HXX.out k hk).1) (HX3.out.srv.more fun k hk _ => .inl hk) HV.out HGL.out HX3.out.bel H0.out.2.1 H0.out.2.2 HE.out)
              simp [results, Tryz.results37, go_sem, hc]
            · have hE : doS s o = (s, .err (putErr s.l o.r)) := by rw [ED.out, EE.out, if_neg p3]
              have HE := Aside.mk hE
              have g3 : (putErr s.l o.r != 0) = true := by simp [p3]
              clear p3 hE
              go_wp2_with fail
              refine (refFail _ _).mono ?_
              rintro e w9 ⟨rfl, hb⟩
              have HX9 := Aside.mk (HX3.out.below hb)
              clear hb hc
              obtain ⟨A1, c1, A2, c2, A3, c3, A4, c4, hc, r1, r2, r3, hnv⟩ := HX9.out.cells
              clear r1 r2 r3 hnv
              go_wp2_with fail
              refine bodyPost_ret (v := .agg #[.int .i64 (putErr s.l o.r), .slice none 0 0, .slice none 0 0, .slice none 0 0]) ?_ rfl (.no (by rw [HK.out]; decide) H0.out.1 HX9.out.bel H0.out.2.1 H0.out.2.2 HE.out)
              simp [results, Tryz.results37, go_sem, hc]
set_option maxHeartbeats 8000000 in
set_option maxRecDepth 100000 in
theorem rdCut (g base : Nat) (X Y : Nat → Prop) (s : Srv) (o : OpV) (hk : o.kind = 3) (B1 : Option Addr) (e1 : Nat) (B2 : Option Addr) (e2 : Nat) (B3 : Option Addr) (e3 : Nat) (w : World) (h : SrvIs w g X s) (hX : ∀ k, X k → k ≠ g ∧ some k ≠ s.nv.ownBlock) (hY : ∀ k, Y k → X k ∧ k < w.heap.size) (hn : NOwn w base s.nv s.notes) (hng : ∀ k, s.nv.ownBlock = some k → k ≠ g) (hst : storeErr s.l = 0) (hwf : RecWf o.r)
    (hr : rulR.Row w Y B1 o.rules) (hf : fldR.Row w Y B2 o.r.fields) (hf2 : o.r.fields.length ≤ e2) (hg : str.Row w Y B3 o.r.refs) (hg2 : o.r.refs.length ≤ e3) :
    Calls Tryz.prog 37 #[.pointer (some ⟨g, 0, none⟩), opVal o B1 e1 B2 e2 B3 e3] w (DidN w g base X s o) := by
  have h' : SrvIs w g (fun k => X k ∧ k < w.heap.size) s := h.more fun k h1 h2 => ⟨h1, h2⟩
  have HX := Aside.mk (RX.start (e1 := e1) (e2 := e2) (e3 := e3) h' hr hf hg)
  have H0 := Aside.mk (And.intro h' (And.intro hn hng))
  have HGL := Aside.mk h.lt
  have HYX := Aside.mk hY
  have HXX := Aside.mk hX
  have HF2 := Aside.mk (And.intro hf2 hg2)
  have HST := Aside.mk hst
  have HWF := Aside.mk hwf
  have HK := Aside.mk hk
  have ED := Aside.mk (doS_cut (s := s) hk)
  have k1 : (o.kind == 1) = false := by rw [hk]; rfl
  have k2 : (o.kind == 2) = false := by rw [hk]; rfl
  have k3 : (o.kind == 3) = true := by rw [hk]; rfl
  clear h h' hX hY hn hng hr hf hf2 hg hg2 hk hst hwf
  unfold opVal
  go_enter Tryz.func37, Tryz.ntmps37
  go_upto_region 1 with fail
  generalize hw0 : (w.alloc _).alloc _ = w0
  have hx0 : RX w g (fun k => X k ∧ k < w.heap.size) Y s o B1 B2 B3 e1 e2 e3 w0 := by
    rw [← hw0]
    exact HX.out
  have HX := Aside.mk hx0
  clear hw0 hx0
  obtain ⟨A1, c1, A2, c2, A3, c3, A4, c4, hc, r1, r2, r3, hnv⟩ := HX.out.cells
  clear r1 r2 r3 hnv
  have HX1 := HX
  clear HX
  go_upto_region 16 with fail
  clear hc
  obtain ⟨A1, c1, A2, c2, A3, c3, hkw, hrs⟩ := HX1.out.kw
  have HKW := Aside.mk hkw
  have HRS := Aside.mk hrs
  clear hkw hrs
  generalize hww : w0 = ww at *
  clear hww
  go_cut [8, 9] (fun x y wx => x = .bool (mayV s.up s.rules o.who o.r.cats) ∧ y = .int .i64 (mayErr s.up s.rules o.who o.r.cats) ∧ Aside (Below ww.heap.size ww wx))
  case first =>
    go_region_held3 (fun w' => Kw w' g w.heap.size o B2 B3 e2 e3 (.slice A1 s.up.length c1) (.slice A2 s.rules.length c2) (.slice A3 s.l.length c3))
      (first | exact HKW.out | assumption)
      (first
       | (go_at_call 101; refine (refMay _ _ s.up _ _ s.rules o.who o.r.cats _ _ _ (HRS.out.1.2.below (below_drewN (Below.refl _ _) 1)) HRS.out.1.1 (HRS.out.2.1.2.below (below_drewN (Below.refl _ _) 1)) HRS.out.2.1.1).mono ?_; rintro e w3 ⟨rfl, hb⟩
          have hb3 := below_step (below_drewN (Below.refl _ _) 1) hb
          have hx := Kw.step HKW.out hb3
          have HB3 := Aside.mk hb3
          clear hb hb3))
    all_goals
      go_wp2_with fail
      go_meet
      exact ⟨rfl, rfl, HB3⟩
  case rest =>
    obtain ⟨rfl, rfl, HB1⟩ := hcut
    have HX2 := Aside.mk (HX1.out.below HB1.out)
    clear HKW HRS HX1 HB1
    obtain ⟨me, hme⟩ : ∃ me, mayErr s.up s.rules o.who o.r.cats = me := ⟨_, rfl⟩
    obtain ⟨mv, hmv⟩ : ∃ mv, mayV s.up s.rules o.who o.r.cats = mv := ⟨_, rfl⟩
    have e0 : cutE s o = if me ≠ 0 then me else if mv = false then 6 else cutErr s.l o.id o.r.cats := by rw [cutE, hme, hmv]
    rw [hme, hmv]
    clear hme hmv
    obtain ⟨A1, c1, A2, c2, A3, c3, A4, c4, hc, r1, r2, r3, hnv⟩ := HX2.out.cells
    clear r1 r2 r3 hnv
    by_cases p2 : me = 0
    case neg =>
      have hE : doS s o = (s, .err me) := by
        rw [if_pos p2] at e0
        rw [ED.out, e0, if_neg p2]
      have HE := Aside.mk hE
      have g3 : (me != 0) = true := by simp [p2]
      clear p2 hE e0
      go_wp2_with fail
      refine (refFail _ _).mono ?_
      rintro e w9 ⟨rfl, hb⟩
      have HX9 := Aside.mk (HX2.out.below hb)
      clear hb hc
      obtain ⟨A1, c1, A2, c2, A3, c3, A4, c4, hc, r1, r2, r3, hnv⟩ := HX9.out.cells
      clear r1 r2 r3 hnv
      go_wp2_with fail
      refine bodyPost_ret (v := .agg #[.int .i64 me, .slice none 0 0, .slice none 0 0, .slice none 0 0]) ?_ rfl (.no (by rw [HK.out]; decide) H0.out.1 HX9.out.bel H0.out.2.1 H0.out.2.2 HE.out)
      simp [results, Tryz.results37, go_sem, hc]
    case pos =>
      subst p2
      cases mv with
      | false =>
        have hE : doS s o = (s, .err 6) := by
          rw [if_neg (by simp), if_pos rfl] at e0
          rw [ED.out, e0, if_neg (by decide)]
        have HE := Aside.mk hE
        clear hE e0
        go_wp2_with fail
        refine (refFail _ _).mono ?_
        rintro e w9 ⟨rfl, hb⟩
        have HX9 := Aside.mk (HX2.out.below hb)
        clear hb hc
        obtain ⟨A1, c1, A2, c2, A3, c3, A4, c4, hc, r1, r2, r3, hnv⟩ := HX9.out.cells
        clear r1 r2 r3 hnv
        go_wp2_with fail
        refine bodyPost_ret (v := .agg #[.int .i64 6, .slice none 0 0, .slice none 0 0, .slice none 0 0]) ?_ rfl (.no (by rw [HK.out]; decide) H0.out.1 HX9.out.bel H0.out.2.1 H0.out.2.2 HE.out)
        simp [results, Tryz.results37, go_sem, hc]
      | true =>
        have e1' : cutE s o = cutErr s.l o.id o.r.cats := by rw [e0, if_neg (by simp), if_neg (by simp)]
        have EE := Aside.mk e1'
        clear e0 e1' hc
        go_upto_region 21 with fail
        obtain ⟨A1, c1, A2, c2, A3, c3, hkw, hrs⟩ := HX2.out.kw
        have HKW := Aside.mk hkw
        have HRS := Aside.mk hrs
        clear hkw hrs
        generalize hww : wc = wd at *
        clear hww
        go_cut [10, 9] (fun x y wx => y = .int .i64 (putErr s.l o.r) ∧ Aside (verR.Sl wx (fun k => (X k ∧ k < w.heap.size) ∨ (w.heap.size + 1 < k)) x (putV s.l o.r)) ∧ Aside (Below wd.heap.size wd wx))
        case first =>
          go_region_held3 (fun w' => Kw w' g w.heap.size o B2 B3 e2 e3 (.slice A1 s.up.length c1) (.slice A2 s.rules.length c2) (.slice A3 s.l.length c3))
            (first | exact HKW.out | assumption)
            (first
             | (go_at_call 102; refine (refPutZ _ _ s.l o.r _ _ _ _ (fun k => X k ∧ k < w.heap.size) Y Y (fun k => (X k ∧ k < w.heap.size) ∨ (w.heap.size + 1 < k)) (wd.drewN 1) (fun k hk => .inr (Nat.lt_of_lt_of_le (Nat.lt_of_lt_of_le (Nat.lt_succ_self _) HX2.out.sz) hk)) (fun k hk _ => .inl hk) (fun k hk _ => .inl (HYX.out k hk)) (fun k hk _ => .inl (HYX.out k hk)) HST.out HWF.out (HRS.out.2.2.2.below (below_drewN (Below.refl _ _) 1)) HRS.out.2.2.1 (HX2.out.f.below (below_drewN (Below.refl _ _) 1)) HF2.out.1 (HX2.out.g.below (below_drewN (Below.refl _ _) 1)) HF2.out.2).mono ?_; rintro e w3 ⟨v, rfl, hs, hb⟩
                have hb3 := below_step (below_drewN (Below.refl _ _) 1) hb
                have hx := Kw.step HKW.out hb3
                have HB3 := Aside.mk hb3
                have HV3 := Aside.mk hs
                clear hb hb3 hs))
          all_goals
            go_wp2_with fail
            go_meet
            exact ⟨rfl, HV3, HB3⟩
        case rest =>
          obtain ⟨rfl, HV, HB2⟩ := hcut
          have HX3 := Aside.mk (HX2.out.below HB2.out)
          clear HKW HRS HX2 HB2
          clear HV
          obtain ⟨A1, c1, A2, c2, A3, c3, A4, c4, hc, r1, r2, r3, hnv⟩ := HX3.out.cells
          clear r1 r2 r3 hnv
          go_upto_region 23 with fail
          clear hc
          obtain ⟨A1, c1, A2, c2, A3, c3, hkw, hrs⟩ := HX3.out.kw
          have HKW := Aside.mk hkw
          have HRS := Aside.mk hrs
          clear hkw hrs
          generalize hww : wc = we at *
          clear hww
          go_cut [10, 9] (fun x y wx => y = .int .i64 (cutErr s.l o.id o.r.cats) ∧ Aside (verR.Sl wx (fun k => (X k ∧ k < w.heap.size) ∨ (w.heap.size + 1 < k)) x (cutV s.l o.id o.r.cats)) ∧ Aside (Below we.heap.size we wx))
          case first =>
            go_region_held3 (fun w' => Kw w' g w.heap.size o B2 B3 e2 e3 (.slice A1 s.up.length c1) (.slice A2 s.rules.length c2) (.slice A3 s.l.length c3))
              (first | exact HKW.out | assumption)
              (first
               | (go_at_call 103; refine (refCutZ _ _ s.l o.id o.r.cats (fun k => X k ∧ k < w.heap.size) (fun k => (X k ∧ k < w.heap.size) ∨ (w.heap.size + 1 < k)) (we.drewN 1) (fun k hk => .inr (Nat.lt_of_lt_of_le (Nat.lt_of_lt_of_le (Nat.lt_succ_self _) HX3.out.sz) hk)) (fun k hk _ => .inl hk) HST.out (HRS.out.2.2.2.below (below_drewN (Below.refl _ _) 1)) HRS.out.2.2.1).mono ?_; rintro e w3 ⟨v, rfl, hs, hb⟩
                  have hb3 := below_step (below_drewN (Below.refl _ _) 1) hb
                  have hx := Kw.step HKW.out hb3
                  have HB3 := Aside.mk hb3
                  have HV3 := Aside.mk hs
                  clear hb hb3 hs))
            all_goals
              go_wp2_with fail
              go_meet
              exact ⟨rfl, HV3, HB3⟩
          case rest =>
            obtain ⟨rfl, HV, HB2⟩ := hcut
            have HX4 := Aside.mk (HX3.out.below HB2.out)
            clear HKW HRS HX3 HB2
            obtain ⟨A1, c1, A2, c2, A3, c3, A4, c4, hc, r1, r2, r3, hnv⟩ := HX4.out.cells
            clear r1 r2 r3 hnv
            by_cases p3 : cutErr s.l o.id o.r.cats = 0
            · have hE : doS s o = ({ s with l := cutV s.l o.id o.r.cats }, .err 0) := by rw [ED.out, EE.out, if_pos p3, p3]
              have HE := Aside.mk hE
              obtain ⟨X9, d9, rfl⟩ := Sl.form HV.out
              rw [p3]
              clear p3 hE
              have hne : g ≠ w.heap.size + 1 := fun e => by have := HGL.out; omega
              have hne2 : w.heap.size + 1 ≠ g := fun e => hne e.symm
              have hne3 : w.heap.size ≠ g := fun e => by have := HGL.out; omega
              go_wp2_with fail
              refine bodyPost_ret (v := .agg #[.int .i64 0, .slice none 0 0, .slice none 0 0, .slice none 0 0]) ?_ rfl (.put (by rw [HK.out]; decide) (fun k hk => (HXX.out k hk).1) (HX4.out.srv.more fun k hk _ => .inl hk) HV.out HGL.out HX4.out.bel H0.out.2.1 H0.out.2.2 HE.out)
              simp [results, Tryz.results37, go_sem, hc]
            · have hE : doS s o = (s, .err (cutErr s.l o.id o.r.cats)) := by rw [ED.out, EE.out, if_neg p3]
              have HE := Aside.mk hE
              have g3 : (cutErr s.l o.id o.r.cats != 0) = true := by simp [p3]
              clear p3 hE
              go_wp2_with fail
              refine (refFail _ _).mono ?_
              rintro e w9 ⟨rfl, hb⟩
              have HX9 := Aside.mk (HX4.out.below hb)
              clear hb hc
              obtain ⟨A1, c1, A2, c2, A3, c3, A4, c4, hc, r1, r2, r3, hnv⟩ := HX9.out.cells
              clear r1 r2 r3 hnv
              go_wp2_with fail
              refine bodyPost_ret (v := .agg #[.int .i64 (cutErr s.l o.id o.r.cats), .slice none 0 0, .slice none 0 0, .slice none 0 0]) ?_ rfl (.no (by rw [HK.out]; decide) H0.out.1 HX9.out.bel H0.out.2.1 H0.out.2.2 HE.out)
              simp [results, Tryz.results37, go_sem, hc]
end Go.Proofs.WK
