/-
  (*wyref.Server).Do (P39 to P42): get, find, hist, need, audit.
-/
import Derived.Test.YtljjiicjnoljbaaGreatDoorRDoW
import Derived.Test.YtljjiicjnoljbaaGreatDoorRefGet
import Derived.Test.YtljjiicjnoljbaaGreatDoorRefBy
namespace Go.Proofs.WK
open Go.RowKit Rp
variable {w w1 W : World} {g base : Nat} {X F Y : Nat → Prop} {s : Srv} {o : OpV}
/-- What has stood, or is newer than the boxes. -/
abbrev Zw (w : World) (k : Nat) : Prop := k < w.heap.size ∨ w.heap.size + 1 < k
/-- Nothing has changed; this is told. -/
theorem DidN.tell {c d e f v1 v2 v3 : Value} {t : Told} (hs : SrvIs w g (fun k => X k ∧ k < w.heap.size) s) (hb : Below w.heap.size w w1) (hn : NOwn w base s.nv s.notes) (hng : ∀ k, s.nv.ownBlock = some k → k ≠ g) (he : doS s o = (s, t))
    (h1 : verR.Sl w1 (Zw w) v1 t.vers) (h2 : str.Sl w1 (Zw w) v2 t.ids) (h3 : nteR.Sl w1 (Zw w) v3 t.notes) :
    DidN w g base X s o (.returned (.agg #[.int .i64 t.code, v1, v2, v3])) ((((w1.setCell ⟨w.heap.size + 1, 0, none⟩ c).setCell ⟨w.heap.size + 1, 1, none⟩ d).setCell ⟨w.heap.size + 1, 2, none⟩ e).setCell ⟨w.heap.size + 1, 3, none⟩ f) := by
  have hb2 : Below w.heap.size w ((((w1.setCell ⟨w.heap.size + 1, 0, none⟩ c).setCell ⟨w.heap.size + 1, 1, none⟩ d).setCell ⟨w.heap.size + 1, 2, none⟩ e).setCell ⟨w.heap.size + 1, 3, none⟩ f) :=
    below_set (below_set (below_set (below_set hb (by show w.heap.size ≤ w.heap.size + 1; omega) _) (by show w.heap.size ≤ w.heap.size + 1; omega) _) (by show w.heap.size ≤ w.heap.size + 1; omega) _) (by show w.heap.size ≤ w.heap.size + 1; omega) _
  have hm : ∀ k, Zw w k → k < w1.heap.size → ((((w1.setCell ⟨w.heap.size + 1, 0, none⟩ c).setCell ⟨w.heap.size + 1, 1, none⟩ d).setCell ⟨w.heap.size + 1, 2, none⟩ e).setCell ⟨w.heap.size + 1, 3, none⟩ f).heap[k]? = w1.heap[k]? := fun k hk _ => sets4 (by omega)
  refine ⟨v1, v2, v3, s.nv, by rw [he], ?_, ?_, ?_, ?_, ?_, .inl rfl, Chg.of_below hb2⟩
  · rw [he]; exact (h1.move hm).mono fun _ _ _ => trivial
  · rw [he]; exact (h2.move hm).mono fun _ _ _ => trivial
  · rw [he]; exact (h3.move hm).mono fun _ _ _ => trivial
  · rw [he]
    exact (hs.below hb2).more fun k hk _ => .inl hk
  · rw [he]; exact hn.below hb2
theorem DidN.not {c d e f : Value} {x : Int} (hs : SrvIs w g (fun k => X k ∧ k < w.heap.size) s) (hb : Below w.heap.size w w1) (hn : NOwn w base s.nv s.notes) (hng : ∀ k, s.nv.ownBlock = some k → k ≠ g) (he : doS s o = (s, .err x)) :
    DidN w g base X s o (.returned (.agg #[.int .i64 x, .slice none 0 0, .slice none 0 0, .slice none 0 0])) ((((w1.setCell ⟨w.heap.size + 1, 0, none⟩ c).setCell ⟨w.heap.size + 1, 1, none⟩ d).setCell ⟨w.heap.size + 1, 2, none⟩ e).setCell ⟨w.heap.size + 1, 3, none⟩ f) :=
  .tell (t := .err x) hs hb hn hng he (Sl.nil _ _ _) (Sl.nil _ _ _) (Sl.nil _ _ _)
/-- One element, cut out. -/
theorem one_cut {α : Type} {d : Rp α} {ok : Nat → Prop} {A : Option Addr} {xs : List α} (h : d.Row W ok A xs) {j : Nat} (hj : j < xs.length) {c : Nat} (hc : 1 ≤ c) : d.Sl W ok (.slice (A.map (·.add (j * d.sz))) 1 c) [xs[j]] := by
  have h1 := (h.cut (n := j) (by omega)).take 1
  have e : (xs.drop j).take 1 = [xs[j]] := by rw [List.drop_eq_getElem_cons hj]; rfl
  rw [e] at h1
  exact ⟨_, c, rfl, hc, h1⟩
set_option maxHeartbeats 8000000 in
set_option maxRecDepth 100000 in
theorem rdGet (g base : Nat) (X Y : Nat → Prop) (s : Srv) (o : OpV) (hk : o.kind = 4) (B1 : Option Addr) (e1 : Nat) (B2 : Option Addr) (e2 : Nat) (B3 : Option Addr) (e3 : Nat) (w : World) (h : SrvIs w g X s) (hX : ∀ k, X k → k ≠ g ∧ some k ≠ s.nv.ownBlock) (hn : NOwn w base s.nv s.notes) (hbase : base ≤ w.heap.size) (hng : ∀ k, s.nv.ownBlock = some k → k ≠ g) (hst : storeErr s.l = 0) (h60 : s.notes.length ≤ 60) (hfv : o.f.val.size ≤ 9223372036854775807)
    (hr : rulR.Row w Y B1 o.rules) (hf : fldR.Row w Y B2 o.r.fields) (hg : str.Row w Y B3 o.r.refs) :
    Calls Tryz.prog 37 #[.pointer (some ⟨g, 0, none⟩), opVal o B1 e1 B2 e2 B3 e3] w (DidN w g base X s o) := by
  have h' : SrvIs w g (fun k => X k ∧ k < w.heap.size) s := h.more fun k h1 h2 => ⟨h1, h2⟩
  have HX := Aside.mk (RX.start (e1 := e1) (e2 := e2) (e3 := e3) h' hr hf hg)
  have H0 := Aside.mk (And.intro h' (And.intro hn hng))
  have HGL := Aside.mk h.lt
  have HXX := Aside.mk hX
  have HST := Aside.mk hst
  have HBS := Aside.mk hbase
  have H60 := Aside.mk h60
  have HFV := Aside.mk hfv
  have HK := Aside.mk hk
  have ED := Aside.mk (doS_look (s := s) (.inl hk))
  have k1 : (o.kind == 1) = false := by rw [hk]; rfl
  have k2 : (o.kind == 2) = false := by rw [hk]; rfl
  have k3 : (o.kind == 3) = false := by rw [hk]; rfl
  have k4 : (o.kind == 4) = true := by rw [hk]; rfl
  clear h h' hX hn hng hr hf hg hk hst hbase h60 hfv
  unfold opVal
  go_enter Tryz.func37, Tryz.ntmps37
  go_upto_region 1 with fail
  generalize hw0 : (w.alloc _).alloc _ = w0
  have hx0 : RX w g (fun k => X k ∧ k < w.heap.size) Y s o B1 B2 B3 e1 e2 e3 w0 := by
    rw [← hw0]
    exact HX.out
  have HX1 := Aside.mk hx0
  clear hw0 hx0 HX
  obtain ⟨A1, c1, A2, c2, A3, c3, A4, c4, hc, r1, r2, r3, hnv⟩ := HX1.out.cells
  clear r1 r2 r3 hnv
  go_upto_region 33 with fail
  clear hc
  obtain ⟨A1, c1, A2, c2, A3, c3, hkw, hrs⟩ := HX1.out.kw
  have HKW := Aside.mk hkw
  have HRS := Aside.mk hrs
  clear hkw hrs
  go_cut [11, 12] (fun x y wx => x = .int .i64 (seesV s.up s.rules o.who) ∧ y = .int .i64 (seesErr s.up s.rules o.who) ∧ Aside (Below w0.heap.size w0 wx))
  case first =>
    go_region_held3 (fun w' => Kw w' g w.heap.size o B2 B3 e2 e3 (.slice A1 s.up.length c1) (.slice A2 s.rules.length c2) (.slice A3 s.l.length c3))
      (first | exact HKW.out | assumption)
      (first
       | (go_at_call 104; refine (refSees _ _ s.up _ _ s.rules o.who _ _ _ (HRS.out.1.2.below (below_drewN (Below.refl _ _) 1)) HRS.out.1.1 (HRS.out.2.1.2.below (below_drewN (Below.refl _ _) 1)) HRS.out.2.1.1).mono ?_; rintro e w3 ⟨rfl, hb⟩
          have hb3 := below_step (below_drewN (Below.refl _ _) 1) hb
          have hx := Kw.step HKW.out hb3
          have HB3 := Aside.mk hb3
          clear hb hb3))
    all_goals
      go_wp2_with fail
      go_meet
      exact ⟨rfl, rfl, HB3⟩
  case rest =>
    obtain ⟨rfl, rfl, HB1⟩ := hcut
    have HX2 := Aside.mk (HX1.out.below HB1.out)
    clear HKW HRS HX1 HB1
    have HSV := Aside.mk (sees_range s.up s.rules o.who)
    obtain ⟨se, hse⟩ : ∃ se, seesErr s.up s.rules o.who = se := ⟨_, rfl⟩
    have HSE := Aside.mk hse
    rw [hse]
    clear hse
    obtain ⟨A1, c1, A2, c2, A3, c3, A4, c4, hc, r1, r2, r3, hnv⟩ := HX2.out.cells
    clear r1 r2 r3 hnv
    by_cases p2 : se = 0
    case neg =>
      have hE : doS s o = (s, .err se) := by
        rw [ED.out, lookT, mine_bad (by rw [HSE.out]; exact p2), HSE.out, if_pos p2]
      have HE := Aside.mk hE
      have g3 : (se != 0) = true := by simp [p2]
      clear p2 hE
      go_wp2_with fail
      refine (refFail _ _).mono ?_
      rintro e w9 ⟨rfl, hb⟩
      have HX9 := Aside.mk (HX2.out.below hb)
      clear hb hc
      obtain ⟨A1, c1, A2, c2, A3, c3, A4, c4, hc, r1, r2, r3, hnv⟩ := HX9.out.cells
      clear r1 r2 r3 hnv
      go_wp2_with fail
      refine bodyPost_ret (v := .agg #[.int .i64 se, .slice none 0 0, .slice none 0 0, .slice none 0 0]) ?_ rfl (.not H0.out.1 HX9.out.bel H0.out.2.1 H0.out.2.2 HE.out)
      simp [results, Tryz.results37, go_sem, hc]
    case pos =>
      subst p2
      have EL := Aside.mk (show doS s o = (s, if o.kind = 4 then ⟨getErr (seenL s.l (seesV s.up s.rules o.who)) o.id, oneV (seenL s.l (seesV s.up s.rules o.who)) o.id, [], []⟩ else if o.kind = 6 then ⟨histErr (seenL s.l (seesV s.up s.rules o.who)) o.id, histV (seenL s.l (seesV s.up s.rules o.who)) o.id, [], []⟩ else ⟨byErr (seenL s.l (seesV s.up s.rules o.who)) o.f, [], byV (seenL s.l (seesV s.up s.rules o.who)) o.f, []⟩) by
        obtain ⟨a1, a2⟩ := mine_ok HST.out HSE.out
        rw [ED.out, lookT, if_neg (by simpa using a1), a2])
      clear ED
      obtain ⟨A1', c1', A2', c2', A3', c3', A4', c4', hc', r1, r2, r3, hnv⟩ := HX2.out.cells
      clear r1 r2 hnv hc
      have hc := hc'
      have HR3 := Aside.mk r3
      clear r3 hc'
      go_wp2_with fail
      refine (refSeen _ _ s.l _ _ _ HR3.out.2 HST.out (Int.natCast_nonneg _)).mono ?_
      rintro e w3 ⟨v, rfl, ho, hb⟩
      change verR.Own _ _ _ _ _ (seenL s.l _) at ho
      have HX3 := Aside.mk (HX2.out.below hb)
      have HSS := Aside.mk (seen_store HST.out ((seesV s.up s.rules o.who : Nat) : Int))
      generalize seenL s.l (seesV s.up s.rules o.who) = L at *
      have HLR := Aside.mk (ho.sl.mono (ok' := Zw w) fun k hk _ => hk.elim (fun h => .inl h.1.2) fun h => .inr (Nat.lt_of_lt_of_le (Nat.lt_of_lt_of_le (Nat.lt_succ_self _) HX2.out.sz) (ho.lt k h).1))
      clear ho hb hc
      obtain ⟨AL, cL, rfl, hcL, hLR⟩ := HLR.out
      have HLR := Aside.mk hLR
      clear hLR
      obtain ⟨A1, c1, A2, c2, A3, c3, A4, c4, hc, r1, r2, r3, hnv⟩ := HX3.out.cells
      clear r1 r2 r3 hnv
      have EK : Aside (doS s o = (s, ⟨getErr L o.id, oneV L o.id, [], []⟩)) := ⟨by rw [EL.out, if_pos HK.out]⟩
      go_wp2_with fail
      refine (refGet AL L.length cL L o.id _ _ HLR.out rfl).mono ?_
      rintro e w4 ⟨rfl, hb⟩
      have HX4 := Aside.mk (HX3.out.below hb)
      have HLR4 := Aside.mk (HLR.out.below hb)
      clear hb hc
      obtain ⟨A1, c1, A2, c2, A3, c3, A4, c4, hc, r1, r2, r3, hnv⟩ := HX4.out.cells
      clear r1 r2 r3 hnv
      have hlt := getI_lt L o.id
      by_cases p3 : 0 ≤ getI L o.id
      · obtain ⟨j, hj⟩ : ∃ j : Nat, getI L o.id = j := ⟨(getI L o.id).toNat, by omega⟩
        have hjl : j < L.length := by omega
        have HJ := Aside.mk (one_hit HSS.out hjl hj)
        have HJ0 := Aside.mk (get_hit HSS.out hjl hj).1
        rw [hj]
        clear hj hlt p3
        have h1 : (j : Int) + 1 ≤ (L.length : Int) := by omega
        have h2 : (j : Int) + 1 ≤ (cL : Int) := by omega
        have h3 : ¬ (cL = j) := by omega
        have h4 : (j : Int) < 6000 := by have := (store_ok HSS.out).1; omega
        go_wp2_with fail
        refine bodyPost_ret (v := .agg #[.int .i64 0, .slice (AL.map (fun x => x.add (j * 5))) 1 (cL - j), .slice none 0 0, .slice none 0 0]) ?_ rfl (.tell (t := ⟨0, [L[j]], [], []⟩) H0.out.1 HX4.out.bel H0.out.2.1 H0.out.2.2 (by rw [EK.out, HJ.out, HJ0.out]) (one_cut HLR4.out hjl (by omega)) (Sl.nil _ _ _) (Sl.nil _ _ _))
        simp [results, Tryz.results37, go_sem, hc]
      · have h5 := one_none HSS.out (show getI L o.id = -1 by omega)
        have hE : doS s o = (s, .err 4) := by rw [EK.out, h5.1, h5.2]; rfl
        have HE := Aside.mk hE
        clear h5 hE hlt
        go_wp2_with fail
        refine (refFail _ _).mono ?_
        rintro e w9 ⟨rfl, hb⟩
        have HX9 := Aside.mk (HX4.out.below hb)
        clear hb hc
        obtain ⟨A1, c1, A2, c2, A3, c3, A4, c4, hc, r1, r2, r3, hnv⟩ := HX9.out.cells
        clear r1 r2 r3 hnv
        go_wp2_with fail
        refine bodyPost_ret (v := .agg #[.int .i64 4, .slice none 0 0, .slice none 0 0, .slice none 0 0]) ?_ rfl (.not H0.out.1 HX9.out.bel H0.out.2.1 H0.out.2.2 HE.out)
        simp [results, Tryz.results37, go_sem, hc]
set_option maxHeartbeats 8000000 in
set_option maxRecDepth 100000 in
theorem rdFind (g base : Nat) (X Y : Nat → Prop) (s : Srv) (o : OpV) (hk : o.kind = 5) (B1 : Option Addr) (e1 : Nat) (B2 : Option Addr) (e2 : Nat) (B3 : Option Addr) (e3 : Nat) (w : World) (h : SrvIs w g X s) (hX : ∀ k, X k → k ≠ g ∧ some k ≠ s.nv.ownBlock) (hn : NOwn w base s.nv s.notes) (hbase : base ≤ w.heap.size) (hng : ∀ k, s.nv.ownBlock = some k → k ≠ g) (hst : storeErr s.l = 0) (h60 : s.notes.length ≤ 60) (hfv : o.f.val.size ≤ 9223372036854775807)
    (hr : rulR.Row w Y B1 o.rules) (hf : fldR.Row w Y B2 o.r.fields) (hg : str.Row w Y B3 o.r.refs) :
    Calls Tryz.prog 37 #[.pointer (some ⟨g, 0, none⟩), opVal o B1 e1 B2 e2 B3 e3] w (DidN w g base X s o) := by
  have h' : SrvIs w g (fun k => X k ∧ k < w.heap.size) s := h.more fun k h1 h2 => ⟨h1, h2⟩
  have HX := Aside.mk (RX.start (e1 := e1) (e2 := e2) (e3 := e3) h' hr hf hg)
  have H0 := Aside.mk (And.intro h' (And.intro hn hng))
  have HGL := Aside.mk h.lt
  have HXX := Aside.mk hX
  have HST := Aside.mk hst
  have HBS := Aside.mk hbase
  have H60 := Aside.mk h60
  have HFV := Aside.mk hfv
  have HK := Aside.mk hk
  have ED := Aside.mk (doS_look (s := s) (.inr (.inl hk)))
  have k1 : (o.kind == 1) = false := by rw [hk]; rfl
  have k2 : (o.kind == 2) = false := by rw [hk]; rfl
  have k3 : (o.kind == 3) = false := by rw [hk]; rfl
  have k4 : (o.kind == 4) = false := by rw [hk]; rfl
  have k5 : (o.kind == 5) = true := by rw [hk]; rfl
  clear h h' hX hn hng hr hf hg hk hst hbase h60 hfv
  unfold opVal
  go_enter Tryz.func37, Tryz.ntmps37
  go_upto_region 1 with fail
  generalize hw0 : (w.alloc _).alloc _ = w0
  have hx0 : RX w g (fun k => X k ∧ k < w.heap.size) Y s o B1 B2 B3 e1 e2 e3 w0 := by
    rw [← hw0]
    exact HX.out
  have HX1 := Aside.mk hx0
  clear hw0 hx0 HX
  obtain ⟨A1, c1, A2, c2, A3, c3, A4, c4, hc, r1, r2, r3, hnv⟩ := HX1.out.cells
  clear r1 r2 r3 hnv
  go_upto_region 33 with fail
  clear hc
  obtain ⟨A1, c1, A2, c2, A3, c3, hkw, hrs⟩ := HX1.out.kw
  have HKW := Aside.mk hkw
  have HRS := Aside.mk hrs
  clear hkw hrs
  go_cut [11, 12] (fun x y wx => x = .int .i64 (seesV s.up s.rules o.who) ∧ y = .int .i64 (seesErr s.up s.rules o.who) ∧ Aside (Below w0.heap.size w0 wx))
  case first =>
    go_region_held3 (fun w' => Kw w' g w.heap.size o B2 B3 e2 e3 (.slice A1 s.up.length c1) (.slice A2 s.rules.length c2) (.slice A3 s.l.length c3))
      (first | exact HKW.out | assumption)
      (first
       | (go_at_call 104; refine (refSees _ _ s.up _ _ s.rules o.who _ _ _ (HRS.out.1.2.below (below_drewN (Below.refl _ _) 1)) HRS.out.1.1 (HRS.out.2.1.2.below (below_drewN (Below.refl _ _) 1)) HRS.out.2.1.1).mono ?_; rintro e w3 ⟨rfl, hb⟩
          have hb3 := below_step (below_drewN (Below.refl _ _) 1) hb
          have hx := Kw.step HKW.out hb3
          have HB3 := Aside.mk hb3
          clear hb hb3))
    all_goals
      go_wp2_with fail
      go_meet
      exact ⟨rfl, rfl, HB3⟩
  case rest =>
    obtain ⟨rfl, rfl, HB1⟩ := hcut
    have HX2 := Aside.mk (HX1.out.below HB1.out)
    clear HKW HRS HX1 HB1
    have HSV := Aside.mk (sees_range s.up s.rules o.who)
    obtain ⟨se, hse⟩ : ∃ se, seesErr s.up s.rules o.who = se := ⟨_, rfl⟩
    have HSE := Aside.mk hse
    rw [hse]
    clear hse
    obtain ⟨A1, c1, A2, c2, A3, c3, A4, c4, hc, r1, r2, r3, hnv⟩ := HX2.out.cells
    clear r1 r2 r3 hnv
    by_cases p2 : se = 0
    case neg =>
      have hE : doS s o = (s, .err se) := by
        rw [ED.out, lookT, mine_bad (by rw [HSE.out]; exact p2), HSE.out, if_pos p2]
      have HE := Aside.mk hE
      have g3 : (se != 0) = true := by simp [p2]
      clear p2 hE
      go_wp2_with fail
      refine (refFail _ _).mono ?_
      rintro e w9 ⟨rfl, hb⟩
      have HX9 := Aside.mk (HX2.out.below hb)
      clear hb hc
      obtain ⟨A1, c1, A2, c2, A3, c3, A4, c4, hc, r1, r2, r3, hnv⟩ := HX9.out.cells
      clear r1 r2 r3 hnv
      go_wp2_with fail
      refine bodyPost_ret (v := .agg #[.int .i64 se, .slice none 0 0, .slice none 0 0, .slice none 0 0]) ?_ rfl (.not H0.out.1 HX9.out.bel H0.out.2.1 H0.out.2.2 HE.out)
      simp [results, Tryz.results37, go_sem, hc]
    case pos =>
      subst p2
      have EL := Aside.mk (show doS s o = (s, if o.kind = 4 then ⟨getErr (seenL s.l (seesV s.up s.rules o.who)) o.id, oneV (seenL s.l (seesV s.up s.rules o.who)) o.id, [], []⟩ else if o.kind = 6 then ⟨histErr (seenL s.l (seesV s.up s.rules o.who)) o.id, histV (seenL s.l (seesV s.up s.rules o.who)) o.id, [], []⟩ else ⟨byErr (seenL s.l (seesV s.up s.rules o.who)) o.f, [], byV (seenL s.l (seesV s.up s.rules o.who)) o.f, []⟩) by
        obtain ⟨a1, a2⟩ := mine_ok HST.out HSE.out
        rw [ED.out, lookT, if_neg (by simpa using a1), a2])
      clear ED
      obtain ⟨A1', c1', A2', c2', A3', c3', A4', c4', hc', r1, r2, r3, hnv⟩ := HX2.out.cells
      clear r1 r2 hnv hc
      have hc := hc'
      have HR3 := Aside.mk r3
      clear r3 hc'
      go_wp2_with fail
      refine (refSeen _ _ s.l _ _ _ HR3.out.2 HST.out (Int.natCast_nonneg _)).mono ?_
      rintro e w3 ⟨v, rfl, ho, hb⟩
      change verR.Own _ _ _ _ _ (seenL s.l _) at ho
      have HX3 := Aside.mk (HX2.out.below hb)
      have HSS := Aside.mk (seen_store HST.out ((seesV s.up s.rules o.who : Nat) : Int))
      generalize seenL s.l (seesV s.up s.rules o.who) = L at *
      have HLR := Aside.mk (ho.sl.mono (ok' := Zw w) fun k hk _ => hk.elim (fun h => .inl h.1.2) fun h => .inr (Nat.lt_of_lt_of_le (Nat.lt_of_lt_of_le (Nat.lt_succ_self _) HX2.out.sz) (ho.lt k h).1))
      clear ho hb hc
      obtain ⟨AL, cL, rfl, hcL, hLR⟩ := HLR.out
      have HLR := Aside.mk hLR
      clear hLR
      obtain ⟨A1, c1, A2, c2, A3, c3, A4, c4, hc, r1, r2, r3, hnv⟩ := HX3.out.cells
      clear r1 r2 r3 hnv
      have EK : Aside (doS s o = (s, ⟨byErr L o.f, [], byV L o.f, []⟩)) := ⟨by rw [EL.out, if_neg (by rw [HK.out]; decide), if_neg (by rw [HK.out]; decide)]⟩
      clear EL
      rcases by_ways L o.f HSS.out with ⟨a1, HW⟩ | ⟨⟨a1, a2⟩, HW⟩ | ⟨⟨a1, a2⟩, HW⟩
      · have HE := Aside.mk (show doS s o = (s, .err 3) by rw [EK.out, HW.out.1, HW.out.2]; rfl)
        clear HW
        go_wp2_with fail
        refine (refId o.f.key _).mono ?_
        rw [a1]
        rintro e w4 ⟨rfl, hb⟩
        have HX4 := Aside.mk (HX3.out.below hb)
        have HLR4 := Aside.mk (HLR.out.below hb)
        clear hb hc
        obtain ⟨A1, c1, A2, c2, A3, c3, A4, c4, hc, r1, r2, r3, hnv⟩ := HX4.out.cells
        clear r1 r2 r3 hnv
        go_wp2_with fail
        refine (refFail _ _).mono ?_
        rintro e w9 ⟨rfl, hb⟩
        have HX9 := Aside.mk (HX4.out.below hb)
        clear hb hc
        obtain ⟨A1, c1, A2, c2, A3, c3, A4, c4, hc, r1, r2, r3, hnv⟩ := HX9.out.cells
        clear r1 r2 r3 hnv
        go_wp2_with fail
        refine bodyPost_ret (v := .agg #[.int .i64 3, .slice none 0 0, .slice none 0 0, .slice none 0 0]) ?_ rfl (.not H0.out.1 HX9.out.bel H0.out.2.1 H0.out.2.2 HE.out)
        simp [results, Tryz.results37, go_sem, hc]
      · have HE := Aside.mk (show doS s o = (s, .err 3) by rw [EK.out, HW.out.1, HW.out.2]; rfl)
        clear HW
        go_wp2_with fail
        refine (refId o.f.key _).mono ?_
        rw [a1]
        rintro e w4 ⟨rfl, hb⟩
        have HX4 := Aside.mk (HX3.out.below hb)
        have HLR4 := Aside.mk (HLR.out.below hb)
        clear hb hc
        obtain ⟨A1, c1, A2, c2, A3, c3, A4, c4, hc, r1, r2, r3, hnv⟩ := HX4.out.cells
        clear r1 r2 r3 hnv
        go_wp2_with fail
        refine (refValue o.f.val HFV.out _).mono ?_
        rw [a2]
        rintro e w5 ⟨rfl, hb⟩
        have HX5 := Aside.mk (HX4.out.below hb)
        have HLR5 := Aside.mk (HLR4.out.below hb)
        clear hb hc
        obtain ⟨A1, c1, A2, c2, A3, c3, A4, c4, hc, r1, r2, r3, hnv⟩ := HX5.out.cells
        clear r1 r2 r3 hnv
        go_wp2_with fail
        refine (refFail _ _).mono ?_
        rintro e w9 ⟨rfl, hb⟩
        have HX9 := Aside.mk (HX5.out.below hb)
        clear hb hc
        obtain ⟨A1, c1, A2, c2, A3, c3, A4, c4, hc, r1, r2, r3, hnv⟩ := HX9.out.cells
        clear r1 r2 r3 hnv
        go_wp2_with fail
        refine bodyPost_ret (v := .agg #[.int .i64 3, .slice none 0 0, .slice none 0 0, .slice none 0 0]) ?_ rfl (.not H0.out.1 HX9.out.bel H0.out.2.1 H0.out.2.2 HE.out)
        simp [results, Tryz.results37, go_sem, hc]
      · have HE := Aside.mk (show doS s o = (s, ⟨0, [], byF L o.f (idsV L), []⟩) by rw [EK.out, HW.out.1, HW.out.2])
        clear HW
        go_wp2_with fail
        refine (refId o.f.key _).mono ?_
        rw [a1]
        rintro e w4 ⟨rfl, hb⟩
        have HX4 := Aside.mk (HX3.out.below hb)
        have HLR4 := Aside.mk (HLR.out.below hb)
        clear hb hc
        obtain ⟨A1, c1, A2, c2, A3, c3, A4, c4, hc, r1, r2, r3, hnv⟩ := HX4.out.cells
        clear r1 r2 r3 hnv
        go_wp2_with fail
        refine (refValue o.f.val HFV.out _).mono ?_
        rw [a2]
        rintro e w5 ⟨rfl, hb⟩
        have HX5 := Aside.mk (HX4.out.below hb)
        have HLR5 := Aside.mk (HLR4.out.below hb)
        clear hb hc
        obtain ⟨A1, c1, A2, c2, A3, c3, A4, c4, hc, r1, r2, r3, hnv⟩ := HX5.out.cells
        clear r1 r2 r3 hnv
        go_wp2_with fail
        refine (refBy AL cL L o.f _ _ HLR5.out HSS.out).mono ?_
        rintro e w6 ⟨v, rfl, hs, hb⟩
        have HX6 := Aside.mk (HX5.out.below hb)
        have HV := Aside.mk (hs.mono (ok' := Zw w) fun k hk _ => .inr (Nat.lt_of_lt_of_le (Nat.lt_of_lt_of_le (Nat.lt_succ_self _) HX5.out.sz) hk))
        obtain ⟨X9, d9, rfl⟩ := Sl.form hs
        clear hb hc hs
        obtain ⟨A1, c1, A2, c2, A3, c3, A4, c4, hc, r1, r2, r3, hnv⟩ := HX6.out.cells
        clear r1 r2 r3 hnv
        go_wp2_with fail
        refine bodyPost_ret (v := .agg #[.int .i64 0, .slice none 0 0, .slice X9 (byF L o.f (idsV L)).length d9, .slice none 0 0]) ?_ rfl (.tell (t := ⟨0, [], byF L o.f (idsV L), []⟩) H0.out.1 HX6.out.bel H0.out.2.1 H0.out.2.2 HE.out (Sl.nil _ _ _) HV.out (Sl.nil _ _ _))
        simp [results, Tryz.results37, go_sem, hc]
set_option maxHeartbeats 8000000 in
set_option maxRecDepth 100000 in
theorem rdHist (g base : Nat) (X Y : Nat → Prop) (s : Srv) (o : OpV) (hk : o.kind = 6) (B1 : Option Addr) (e1 : Nat) (B2 : Option Addr) (e2 : Nat) (B3 : Option Addr) (e3 : Nat) (w : World) (h : SrvIs w g X s) (hX : ∀ k, X k → k ≠ g ∧ some k ≠ s.nv.ownBlock) (hn : NOwn w base s.nv s.notes) (hbase : base ≤ w.heap.size) (hng : ∀ k, s.nv.ownBlock = some k → k ≠ g) (hst : storeErr s.l = 0) (h60 : s.notes.length ≤ 60) (hfv : o.f.val.size ≤ 9223372036854775807)
    (hr : rulR.Row w Y B1 o.rules) (hf : fldR.Row w Y B2 o.r.fields) (hg : str.Row w Y B3 o.r.refs) :
    Calls Tryz.prog 37 #[.pointer (some ⟨g, 0, none⟩), opVal o B1 e1 B2 e2 B3 e3] w (DidN w g base X s o) := by
  have h' : SrvIs w g (fun k => X k ∧ k < w.heap.size) s := h.more fun k h1 h2 => ⟨h1, h2⟩
  have HX := Aside.mk (RX.start (e1 := e1) (e2 := e2) (e3 := e3) h' hr hf hg)
  have H0 := Aside.mk (And.intro h' (And.intro hn hng))
  have HGL := Aside.mk h.lt
  have HXX := Aside.mk hX
  have HST := Aside.mk hst
  have HBS := Aside.mk hbase
  have H60 := Aside.mk h60
  have HFV := Aside.mk hfv
  have HK := Aside.mk hk
  have ED := Aside.mk (doS_look (s := s) (.inr (.inr hk)))
  have k1 : (o.kind == 1) = false := by rw [hk]; rfl
  have k2 : (o.kind == 2) = false := by rw [hk]; rfl
  have k3 : (o.kind == 3) = false := by rw [hk]; rfl
  have k4 : (o.kind == 4) = false := by rw [hk]; rfl
  have k5 : (o.kind == 5) = false := by rw [hk]; rfl
  have k6 : (o.kind == 6) = true := by rw [hk]; rfl
  clear h h' hX hn hng hr hf hg hk hst hbase h60 hfv
  unfold opVal
  go_enter Tryz.func37, Tryz.ntmps37
  go_upto_region 1 with fail
  generalize hw0 : (w.alloc _).alloc _ = w0
  have hx0 : RX w g (fun k => X k ∧ k < w.heap.size) Y s o B1 B2 B3 e1 e2 e3 w0 := by
    rw [← hw0]
    exact HX.out
  have HX1 := Aside.mk hx0
  clear hw0 hx0 HX
  obtain ⟨A1, c1, A2, c2, A3, c3, A4, c4, hc, r1, r2, r3, hnv⟩ := HX1.out.cells
  clear r1 r2 r3 hnv
  go_upto_region 33 with fail
  clear hc
  obtain ⟨A1, c1, A2, c2, A3, c3, hkw, hrs⟩ := HX1.out.kw
  have HKW := Aside.mk hkw
  have HRS := Aside.mk hrs
  clear hkw hrs
  go_cut [11, 12] (fun x y wx => x = .int .i64 (seesV s.up s.rules o.who) ∧ y = .int .i64 (seesErr s.up s.rules o.who) ∧ Aside (Below w0.heap.size w0 wx))
  case first =>
    go_region_held3 (fun w' => Kw w' g w.heap.size o B2 B3 e2 e3 (.slice A1 s.up.length c1) (.slice A2 s.rules.length c2) (.slice A3 s.l.length c3))
      (first | exact HKW.out | assumption)
      (first
       | (go_at_call 104; refine (refSees _ _ s.up _ _ s.rules o.who _ _ _ (HRS.out.1.2.below (below_drewN (Below.refl _ _) 1)) HRS.out.1.1 (HRS.out.2.1.2.below (below_drewN (Below.refl _ _) 1)) HRS.out.2.1.1).mono ?_; rintro e w3 ⟨rfl, hb⟩
          have hb3 := below_step (below_drewN (Below.refl _ _) 1) hb
          have hx := Kw.step HKW.out hb3
          have HB3 := Aside.mk hb3
          clear hb hb3))
    all_goals
      go_wp2_with fail
      go_meet
      exact ⟨rfl, rfl, HB3⟩
  case rest =>
    obtain ⟨rfl, rfl, HB1⟩ := hcut
    have HX2 := Aside.mk (HX1.out.below HB1.out)
    clear HKW HRS HX1 HB1
    have HSV := Aside.mk (sees_range s.up s.rules o.who)
    obtain ⟨se, hse⟩ : ∃ se, seesErr s.up s.rules o.who = se := ⟨_, rfl⟩
    have HSE := Aside.mk hse
    rw [hse]
    clear hse
    obtain ⟨A1, c1, A2, c2, A3, c3, A4, c4, hc, r1, r2, r3, hnv⟩ := HX2.out.cells
    clear r1 r2 r3 hnv
    by_cases p2 : se = 0
    case neg =>
      have hE : doS s o = (s, .err se) := by
        rw [ED.out, lookT, mine_bad (by rw [HSE.out]; exact p2), HSE.out, if_pos p2]
      have HE := Aside.mk hE
      have g3 : (se != 0) = true := by simp [p2]
      clear p2 hE
      go_wp2_with fail
      refine (refFail _ _).mono ?_
      rintro e w9 ⟨rfl, hb⟩
      have HX9 := Aside.mk (HX2.out.below hb)
      clear hb hc
      obtain ⟨A1, c1, A2, c2, A3, c3, A4, c4, hc, r1, r2, r3, hnv⟩ := HX9.out.cells
      clear r1 r2 r3 hnv
      go_wp2_with fail
      refine bodyPost_ret (v := .agg #[.int .i64 se, .slice none 0 0, .slice none 0 0, .slice none 0 0]) ?_ rfl (.not H0.out.1 HX9.out.bel H0.out.2.1 H0.out.2.2 HE.out)
      simp [results, Tryz.results37, go_sem, hc]
    case pos =>
      subst p2
      have EL := Aside.mk (show doS s o = (s, if o.kind = 4 then ⟨getErr (seenL s.l (seesV s.up s.rules o.who)) o.id, oneV (seenL s.l (seesV s.up s.rules o.who)) o.id, [], []⟩ else if o.kind = 6 then ⟨histErr (seenL s.l (seesV s.up s.rules o.who)) o.id, histV (seenL s.l (seesV s.up s.rules o.who)) o.id, [], []⟩ else ⟨byErr (seenL s.l (seesV s.up s.rules o.who)) o.f, [], byV (seenL s.l (seesV s.up s.rules o.who)) o.f, []⟩) by
        obtain ⟨a1, a2⟩ := mine_ok HST.out HSE.out
        rw [ED.out, lookT, if_neg (by simpa using a1), a2])
      clear ED
      obtain ⟨A1', c1', A2', c2', A3', c3', A4', c4', hc', r1, r2, r3, hnv⟩ := HX2.out.cells
      clear r1 r2 hnv hc
      have hc := hc'
      have HR3 := Aside.mk r3
      clear r3 hc'
      go_wp2_with fail
      refine (refSeen _ _ s.l _ _ _ HR3.out.2 HST.out (Int.natCast_nonneg _)).mono ?_
      rintro e w3 ⟨v, rfl, ho, hb⟩
      change verR.Own _ _ _ _ _ (seenL s.l _) at ho
      have HX3 := Aside.mk (HX2.out.below hb)
      have HSS := Aside.mk (seen_store HST.out ((seesV s.up s.rules o.who : Nat) : Int))
      generalize seenL s.l (seesV s.up s.rules o.who) = L at *
      have HLR := Aside.mk (ho.sl.mono (ok' := Zw w) fun k hk _ => hk.elim (fun h => .inl h.1.2) fun h => .inr (Nat.lt_of_lt_of_le (Nat.lt_of_lt_of_le (Nat.lt_succ_self _) HX2.out.sz) (ho.lt k h).1))
      clear ho hb hc
      obtain ⟨AL, cL, rfl, hcL, hLR⟩ := HLR.out
      have HLR := Aside.mk hLR
      clear hLR
      obtain ⟨A1, c1, A2, c2, A3, c3, A4, c4, hc, r1, r2, r3, hnv⟩ := HX3.out.cells
      clear r1 r2 r3 hnv
      have EK : Aside (doS s o = (s, ⟨histErr L o.id, histV L o.id, [], []⟩)) := ⟨by rw [EL.out, if_neg (by rw [HK.out]; decide), if_pos HK.out]⟩
      clear EL
      go_wp2_with fail
      refine (refHist AL cL L o.id _ _ HLR.out HSS.out trivial).mono ?_
      rintro e w4 ⟨v, rfl, ho, hb⟩
      change verR.Own _ _ _ _ _ (histL L o.id) at ho
      have HX4 := Aside.mk (HX3.out.below hb)
      have HV := Aside.mk (ho.sl.mono (ok' := Zw w) fun k hk _ => hk.elim (fun h => h.1) fun h => .inr (Nat.lt_of_lt_of_le (Nat.lt_of_lt_of_le (Nat.lt_succ_self _) HX3.out.sz) (ho.lt k h).1))
      obtain ⟨X9, d9, rfl⟩ := Sl.form ho.sl
      clear hb hc ho
      obtain ⟨A1, c1, A2, c2, A3, c3, A4, c4, hc, r1, r2, r3, hnv⟩ := HX4.out.cells
      clear r1 r2 r3 hnv
      have EH : Aside (histErr L o.id = if histL L o.id = [] then 4 else 0) := ⟨by rw [histErr, if_neg (by simpa using HSS.out)]⟩
      have EV : Aside (histV L o.id = if histErr L o.id = 0 then histL L o.id else []) := ⟨rfl⟩
      generalize histL L o.id = H at *
      by_cases p3 : H = []
      · subst p3
        have HE := Aside.mk (show doS s o = (s, .err 4) by rw [EK.out, EV.out, EH.out]; rfl)
        go_wp2_with fail
        refine (refFail _ _).mono ?_
        rintro e w9 ⟨rfl, hb⟩
        have HX9 := Aside.mk (HX4.out.below hb)
        clear hb hc
        obtain ⟨A1, c1, A2, c2, A3, c3, A4, c4, hc, r1, r2, r3, hnv⟩ := HX9.out.cells
        clear r1 r2 r3 hnv
        go_wp2_with fail
        refine bodyPost_ret (v := .agg #[.int .i64 4, .slice none 0 0, .slice none 0 0, .slice none 0 0]) ?_ rfl (.not H0.out.1 HX9.out.bel H0.out.2.1 H0.out.2.2 HE.out)
        simp [results, Tryz.results37, go_sem, hc]
      · have hE : histErr L o.id = 0 := by rw [EH.out, if_neg p3]
        have HE := Aside.mk (show doS s o = (s, ⟨0, H, [], []⟩) by rw [EK.out, EV.out, hE]; rfl)
        have hpos : (0 : Int) < (H.length : Int) := by
          have := List.length_pos_iff.2 p3
          omega
        clear hE p3
        go_wp2_with fail
        refine bodyPost_ret (v := .agg #[.int .i64 0, .slice X9 H.length d9, .slice none 0 0, .slice none 0 0]) ?_ rfl (.tell (t := ⟨0, H, [], []⟩) H0.out.1 HX4.out.bel H0.out.2.1 H0.out.2.2 HE.out HV.out (Sl.nil _ _ _) (Sl.nil _ _ _))
        simp [results, Tryz.results37, go_sem, hc]
end Go.Proofs.WK
