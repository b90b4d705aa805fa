/-
  Servers in memory, and their notes, which grow in place; (*Server).need (P41).
-/
import Derived.Test.YtljjiicjnoljbaaGreatDoorSrvB
import Derived.Test.YtljjiicjnoljbaaGreatDoorChg
import Derived.Deep.RegionLaw
namespace Go.Proofs.WK
open Go.RowKit Rp
/-- The notes are a row of the server's own. -/
abbrev NOwn (w : World) (base : Nat) (nv : Value) (l : List Nte) : Prop := nteR.Own 116 w base (fun _ => False) nv l
theorem nown_chg {w w' : World} {base : Nat} {nv : Value} {l : List Nte} {S : Nat → Prop} (h : NOwn w base nv l) (hg : Chg S w w') (hn : ∀ k, nv.ownBlock = some k → ¬ S k) : NOwn w' base nv l :=
  h.move (fun k hk => hg.block k (h.lt k hk).2 (hn k hk)) fun _ hk => hk.elim
theorem srv_chg {w w' : World} {g : Nat} {F : Nat → Prop} {s : Srv} {S : Nat → Prop} (h : SrvIs w g F s) (hg : Chg S w w') (h1 : ¬ S g) (h2 : ∀ k, F k → ¬ S k) : SrvIs w' g F s :=
  h.move (hg.block g (by obtain ⟨_, _, _, _, _, _, _, _, h0, _⟩ := h; exact h0.lt) h1) fun k hk hl => hg.block k hl (h2 k hk)
theorem SrvIs.lt {w : World} {g : Nat} {F : Nat → Prop} {s : Srv} (h : SrvIs w g F s) : g < w.heap.size := by obtain ⟨_, _, _, _, _, _, _, _, h0, _⟩ := h; exact h0.lt
/-- Its notes are others from now on. -/
theorem SrvIs.setN {w : World} {g : Nat} {F : Nat → Prop} {s : Srv} (h : SrvIs w g F s) (hF : ∀ k, F k → k ≠ g) {A : Option Addr} {c : Nat} (l : List Nte) : SrvIs (w.setCell ⟨g, 3, none⟩ (.slice A l.length c)) g F { s with notes := l, nv := .slice A l.length c } := by
  obtain ⟨A1, c1, A2, c2, A3, c3, A4, c4, h0, h1, h2, h3, h4⟩ := h
  have hm : ∀ k, F k → k < w.heap.size → (w.setCell ⟨g, 3, none⟩ (.slice A l.length c)).heap[k]? = w.heap[k]? := fun k hk _ => Below.heap_setCell _ _ _ k (hF k hk)
  exact ⟨A1, c1, A2, c2, A3, c3, A, c, h0.set 3 _, ⟨h1.1, h1.2.move hm⟩, ⟨h2.1, h2.2.move hm⟩, ⟨h3.1, h3.2.move hm⟩, rfl⟩
theorem infoNt : (Tryz.prog.info? 116).map (fun i => (i.zero, i.size, i.bytes)) = some (some (.agg #[.int .i64 0, .int .i64 0, .int .i64 0, .string ByteArray.empty]), 4, 40) := by kernel_rfl
/-- What need leaves. -/
def Needed (w : World) (g base : Nat) (F : Nat → Prop) (s : Srv) (o : OpV) (w' : World) : Prop :=
  ∃ nv, SrvIs w' g F { (doS s o).1 with nv := nv } ∧ NOwn w' base nv (doS s o).1.notes ∧ (nv.ownBlock = s.nv.ownBlock ∨ ∃ b, nv.ownBlock = some b ∧ w.heap.size ≤ b) ∧ Chg (fun k => k = g ∨ s.nv.ownBlock = some k) w w'
theorem doS_need {s : Srv} {o : OpV} (hk : o.kind = 7) : doS s o = (if needE s o = 0 then { s with notes := s.notes ++ [⟨o.who, o.id⟩] } else s, ⟨needE s o, if needE s o = 0 then oneV s.l o.id else [], [], []⟩) := by
  unfold doS
  rw [if_neg (by omega), if_neg (by omega), if_neg (by omega), if_pos hk]
theorem Needed.same {w w' : World} {g base : Nat} {F : Nat → Prop} {s : Srv} {o : OpV} (hk : o.kind = 7) (he : needE s o ≠ 0) (h : SrvIs w' g F s) (hn : NOwn w' base s.nv s.notes) (hb : Below w.heap.size w w') : Needed w g base F s o w' := by
  have e : (doS s o).1 = s := by rw [doS_need hk]; exact if_neg he
  exact ⟨s.nv, by rw [e]; exact h, by rw [e]; exact hn, .inl rfl, Chg.of_below hb⟩
/-- The cells that need reads. -/
abbrev Kn (w : World) (g n : Nat) (v1 v2 v3 v4 : Value) (q : Who) (id : ByteArray) : Prop :=
  w.cell? { block := g, off := 0 } = some v1 ∧ w.cell? { block := g, off := 1 } = some v2 ∧ w.cell? { block := g, off := 2 } = some v3 ∧ w.cell? { block := g, off := 3 } = some v4 ∧ w.cell? { block := n, off := 1 } = some (.int .i64 q.role) ∧ w.cell? { block := n, off := 2 } = some (.int .i64 q.why) ∧ w.cell? { block := n, off := 3 } = some (.int .i64 q.time) ∧ w.cell? { block := n, off := 9 } = some (.string id)
theorem Kn.step {w w' : World} {g n : Nat} {v1 v2 v3 v4 : Value} {q : Who} {id : ByteArray} (h : Kn w g n v1 v2 v3 v4 q id) (hb : Below w.heap.size w w') : Kn w' g n v1 v2 v3 v4 q id := by
  obtain ⟨h1, h2, h3, h4, h5, h6, h7, h8⟩ := h
  exact ⟨cell_below hb h1, cell_below hb h2, cell_below hb h3, cell_below hb h4, cell_below hb h5, cell_below hb h6, cell_below hb h7, cell_below hb h8⟩
/-- A server, its notes, and an operation's box. -/
structure NX (w : World) (g base n : Nat) (F : Nat → Prop) (s : Srv) (cs : List Value) (W : World) : Prop where
  srv : SrvIs W g F s
  nn : NOwn W base s.nv s.notes
  bk : Bk W n cs
  bel : Below w.heap.size w W
theorem NX.below {w W W' : World} {g base n : Nat} {F : Nat → Prop} {s : Srv} {cs : List Value} (h : NX w g base n F s cs W) (hb : Below W.heap.size W W') : NX w g base n F s cs W' :=
  ⟨h.srv.below hb, h.nn.below hb, h.bk.below hb, below_step h.bel hb⟩
theorem NX.kn {w W : World} {g base n : Nat} {F : Nat → Prop} {s : Srv} {o : OpV} {B1 B2 B3 : Option Addr} {e1 e2 e3 : Nat} (h : NX w g base n F s (opC o B1 e1 B2 e2 B3 e3) W) : ∃ A1 c1 A2 c2 A3 c3 A4 c4, Kn W g n (.slice A1 s.up.length c1) (.slice A2 s.rules.length c2) (.slice A3 s.l.length c3) (.slice A4 s.notes.length c4) o.who o.id ∧
    int.Row W F A1 s.up ∧ rulR.Row W F A2 s.rules ∧ (s.l.length ≤ c3 ∧ verR.Row W F A3 s.l) ∧ s.nv = .slice A4 s.notes.length c4 := by
  obtain ⟨A1, c1, A2, c2, A3, c3, A4, c4, h0, h1, h2, h3, h4⟩ := h.srv
  exact ⟨A1, c1, A2, c2, A3, c3, A4, c4, ⟨h0.cell 0, h0.cell 1, h0.cell 2, h0.cell 3, h.bk.cell 1, h.bk.cell 2, h.bk.cell 3, h.bk.cell 9⟩, h1.2, h2.2, h3, h4⟩
/-- A note is put on the list. -/
theorem needed_ok {w wc W2 w3 : World} {g base n : Nat} {F : Nat → Prop} {s : Srv} {o : OpV} {cs : List Value} {v : Value} (hk : o.kind = 7) (he : needE s o = 0) (hx : NX w g base n F s cs wc) (hF : ∀ k, F k → k ≠ g ∧ some k ≠ s.nv.ownBlock) (hng : ∀ k, s.nv.ownBlock = some k → k ≠ g) (hgl : g < w.heap.size) (hnl : ∀ k, s.nv.ownBlock = some k → k < w.heap.size)
    (hB : Below wc.heap.size wc W2) (hg : W2.grownBy w3 s.nv.ownBlock) (hO : NOwn w3 base v (s.notes ++ [⟨o.who, o.id⟩])) (hat : v.ownBlock = s.nv.ownBlock ∨ ∃ b, v.ownBlock = some b ∧ W2.heap.size ≤ b) {A : Option Addr} {c : Nat} (hv : v = .slice A (s.notes ++ [(⟨o.who, o.id⟩ : Nte)]).length c) {va : Value} {l : List Ver} (hs : verR.Sl wc (fun k => w.heap.size ≤ k) va l) :
    Needed w g base F s o (w3.setCell ⟨g, 3, none⟩ v) ∧ verR.Sl (w3.setCell ⟨g, 3, none⟩ v) (fun k => w.heap.size ≤ k) va l := by
  have e : (doS s o).1 = { s with notes := s.notes ++ [⟨o.who, o.id⟩] } := by rw [doS_need hk]; exact if_pos he
  have hgg : some g ≠ s.nv.ownBlock := fun e => hng g e.symm rfl
  have hsz : w.heap.size ≤ W2.heap.size := Nat.le_trans hx.bel.size hB.size
  have h1 : SrvIs w3 g F s := (hx.srv.below hB).move (hg.block g (by omega) hgg) fun k hk hl => hg.block k hl (hF k hk).2
  have hvg : ∀ k, v.ownBlock = some k → k ≠ g := fun k hk => by
    rcases hat with h | ⟨b, h, hb⟩
    · exact hng k (h ▸ hk)
    · rw [h] at hk; injection hk with hk; omega
  refine ⟨⟨v, ?_, ?_, ?_, ?_⟩, ?_⟩
  · rw [e, hv]
    exact h1.setN (fun k hk => (hF k hk).1) _
  · rw [e]
    exact hO.move (fun k hk => Below.heap_setCell _ _ _ k (hvg k hk)) fun _ hk => hk.elim
  · rcases hat with h | ⟨b, h, hb⟩
    · exact .inl h
    · exact .inr ⟨b, h, by omega⟩
  · have c1 : Chg (fun k => k = g ∨ s.nv.ownBlock = some k) w W2 := Chg.of_below (below_step hx.bel hB)
    have c2 : Chg (fun k => k = g ∨ s.nv.ownBlock = some k) w w3 := c1.trans (S' := fun k => s.nv.ownBlock = some k) (Chg.of_grown hg fun k e => e) fun k _ h => .inr h
    exact c2.trans (S' := fun k => k = g) (chg_set _ w3 g 3 v rfl) fun k _ h => .inl h
  · refine ((hs.below hB).move fun k hk hl => hg.block k hl fun e => ?_).move fun k hk _ => Below.heap_setCell _ _ _ k (fun e => ?_)
    · have := hnl k e.symm; omega
    · have e2 : k = g := e
      omega
theorem NX.frz {w W W' : World} {g base n o : Nat} {F : Nat → Prop} {s : Srv} {cs : List Value} (h : NX w g base n F s cs W) (hg : W'.heap[g]? = W.heap[g]?) : W'.frozen? ⟨g, o, none⟩ = false := by
  obtain ⟨_, _, _, _, _, _, _, _, ⟨t, h0⟩, _⟩ := h.srv
  exact Bk.frozen ⟨t, hg.trans h0⟩ o
theorem need_e (s : Srv) (o : OpV) : needE s o = if seesErr s.up s.rules o.who ≠ 0 then seesErr s.up s.rules o.who else if s.notes.length = 60 then 2 else getErr s.l o.id := rfl
set_option maxHeartbeats 8000000 in
set_option maxRecDepth 100000 in
theorem serverNeed (g base : Nat) (F : Nat → Prop) (s : Srv) (o : OpV) (hk : o.kind = 7) (B1 : Option Addr) (e1 : Nat) (B2 : Option Addr) (e2 : Nat) (B3 : Option Addr) (e3 : Nat) (w : World) (h : SrvIs w g F s) (hF : ∀ k, F k → k ≠ g ∧ some k ≠ s.nv.ownBlock) (hn : NOwn w base s.nv s.notes) (hbase : base ≤ w.heap.size) (hng : ∀ k, s.nv.ownBlock = some k → k ≠ g) (h60 : s.notes.length ≤ 60) :
    Calls Tryz.prog 53 #[.pointer (some ⟨g, 0, none⟩), opVal o B1 e1 B2 e2 B3 e3] w fun e w' => ∃ v, e = .returned (.tuple #[v, .int .i64 (needE s o)]) ∧ verR.Sl w' (fun k => w.heap.size ≤ k) v (doS s o).2.vers ∧ Needed w g base F s o w' := by
  have hal : Below w.heap.size w (w.alloc (.cells (opC o B1 e1 B2 e2 B3 e3).toArray 40)) := (Below.refl _ _).alloc (Nat.le_refl _) _
  have HX := Aside.mk (show NX w g base w.heap.size F s (opC o B1 e1 B2 e2 B3 e3) _ from ⟨h.below hal, hn.below hal, Bk.made w (opC o B1 e1 B2 e2 B3 e3) 40, hal⟩)
  have hgl := h.lt
  have HGL := Aside.mk hgl
  have HFF := Aside.mk hF
  have HBS := Aside.mk hbase
  have HNG := Aside.mk hng
  have HNL := Aside.mk (fun k hk => (hn.lt k hk).2)
  have HU := Aside.mk (show s.up.length ≤ 9223372036854775807 ∧ s.rules.length ≤ 9223372036854775807 by obtain ⟨_, _, _, _, _, _, _, _, _, h1, h2, _⟩ := h; exact ⟨h1.2.1, h2.2.1⟩)
  have ED := Aside.mk (doS_need (s := s) hk)
  have HK7 := Aside.mk hk
  have EN := Aside.mk (need_e s o)
  clear h hal hF hn hgl hbase hng hk
  unfold opVal
  unfold opC at HX
  go_enter Tryz.func53, Tryz.ntmps53
  go_upto_region 1 with fail
  generalize hw0 : w.alloc (.cells #[.int .i64 o.kind, .int .i64 o.who.role, .int .i64 o.who.why, .int .i64 o.who.time, .slice B1 o.rules.length e1, .string o.r.id, .int .i64 o.r.cats, .slice B2 o.r.fields.length e2, .slice B3 o.r.refs.length e3, .string o.id, .string o.f.key, .string o.f.val] 40) = w0
  have hx0 : NX w g base w.heap.size F s (opC o B1 e1 B2 e2 B3 e3) w0 := by
    rw [← hw0]
    exact HX.out
  have HX := Aside.mk hx0
  clear hw0 hx0
  obtain ⟨A1, c1, A2, c2, A3, c3, A4, c4, hkn, r1, r2, _, _⟩ := HX.out.kn
  have HK := Aside.mk hkn
  have HR := Aside.mk (And.intro r1 r2)
  clear hkn r1 r2
  go_cut [6, 7] (fun x y wx => x = .int .i64 (seesV s.up s.rules o.who) ∧ y = .int .i64 (seesErr s.up s.rules o.who) ∧ Aside (Below w0.heap.size w0 wx))
  case first =>
    go_region_held3 (fun w' => Kn w' g w.heap.size (.slice A1 s.up.length c1) (.slice A2 s.rules.length c2) (.slice A3 s.l.length c3) (.slice A4 s.notes.length c4) o.who o.id)
      (first | exact HK.out | assumption)
      (first
       | (go_at_call 54; refine (ruleSees _ _ s.up _ _ s.rules o.who _ _ _ (HR.out.1.below (below_drewN (Below.refl _ _) 1)) HU.out.1 (HR.out.2.below (below_drewN (Below.refl _ _) 1)) HU.out.2).mono ?_; rintro e w3 ⟨rfl, hb⟩
          have hb3 := below_step (below_drewN (Below.refl _ _) 1) hb
          have hx := Kn.step HK.out hb3
          have HB3 := Aside.mk hb3
          clear hb hb3))
    all_goals
      go_wp2_with fail
      go_meet
      exact ⟨rfl, rfl, HB3⟩
  case rest =>
    obtain ⟨rfl, rfl, HB1⟩ := hcut
    have HX1 := Aside.mk (HX.out.below HB1.out)
    clear HX HK HR
    obtain ⟨A1, c1, A2, c2, A3, c3, A4, c4, hkn, r1, r2, r3, hnv⟩ := HX1.out.kn
    have HK := Aside.mk hkn
    have HR := Aside.mk r3
    have HNV := Aside.mk hnv
    have q := hkn
    clear hkn r1 r2 r3 hnv
    obtain ⟨se, hse⟩ : ∃ se, seesErr s.up s.rules o.who = se := ⟨_, rfl⟩
    rw [hse] at EN ⊢
    clear hse
    by_cases p1 : se = 0
    case neg =>
      have e : needE s o = se := by rw [EN.out, if_pos p1]
      have HV : Aside ((doS s o).2.vers = []) := ⟨by rw [ED.out]; simp only; rw [e, if_neg p1]⟩
      have HE := Aside.mk (show needE s o ≠ 0 by rw [e]; exact p1)
      have g3 : (se != 0) = true := by simp [p1]
      have EE := Aside.mk e
      clear e p1
      go_wp2_with fail
      go_ret2
      exact ⟨_, by rw [EE.out]; rfl, by rw [HV.out]; exact Sl.nil _ _ _, .same HK7.out HE.out HX1.out.srv HX1.out.nn HX1.out.bel⟩
    case pos =>
      subst p1
      by_cases p2 : s.notes.length = 60
      · have e : needE s o = 2 := by rw [EN.out, if_neg (by simp), if_pos p2]
        have HV : Aside ((doS s o).2.vers = []) := ⟨by rw [ED.out]; simp only; rw [e]; rfl⟩
        have HE := Aside.mk (show needE s o ≠ 0 by rw [e]; decide)
        have g4 : ((s.notes.length : Int) == 60) = true := by rw [p2]; rfl
        have EE := Aside.mk e
        clear e p2
        go_wp2_with fail
        go_ret2
        exact ⟨_, by rw [EE.out]; rfl, by rw [HV.out]; exact Sl.nil _ _ _, .same HK7.out HE.out HX1.out.srv HX1.out.nn HX1.out.bel⟩
      · have e : needE s o = getErr s.l o.id := by rw [EN.out, if_neg (by simp), if_neg p2]
        have HL60 : Aside ((s.notes.length + 1) * 40 ≤ 140737488355328) := ⟨by omega⟩
        have g4 : ((s.notes.length : Int) == 60) = false := by simp; omega
        have hvs : (doS s o).2.vers = oneV s.l o.id := by
          rw [ED.out]
          simp only
          rw [e]
          unfold oneV
          split <;> rfl
        have hd1 : (doS s o).1 = if getErr s.l o.id = 0 then { s with notes := s.notes ++ [⟨o.who, o.id⟩] } else s := by rw [ED.out, e]
        have HVS := Aside.mk hvs
        have HD1 := Aside.mk hd1
        have HE := Aside.mk e
        clear e p2 hvs hd1 h60
        go_upto_region 6 with fail
        go_cut [8, 9] (fun x y wx => y = .int .i64 (getErr s.l o.id) ∧ Aside (verR.Sl wx (fun k => wc.heap.size ≤ k) x (oneV s.l o.id)) ∧ Aside (Below wc.heap.size wc wx))
        case first =>
          go_region_held3 (fun w' => Kn w' g w.heap.size (.slice A1 s.up.length c1) (.slice A2 s.rules.length c2) (.slice A3 s.l.length c3) (.slice A4 s.notes.length c4) o.who o.id)
            (first | exact HK.out | assumption)
            (first
             | (go_at_call 57; refine (serverOne _ _ s.l o.id _ _ (HR.out.2.below (below_drewN (Below.refl _ _) 1)) HR.out.1).mono ?_; rintro e w3 ⟨v, rfl, hs, hb⟩
                have hb3 := below_step (below_drewN (Below.refl _ _) 1) hb
                have hx := Kn.step HK.out hb3
                have HB3 := Aside.mk hb3
                have HV3 := Aside.mk hs
                clear hb hb3 hs))
          all_goals
            go_wp2_with fail
            go_meet
            exact ⟨rfl, HV3, HB3⟩
        case rest =>
          obtain ⟨rfl, HV, HB2⟩ := hcut
          have HX2 := Aside.mk (HX1.out.below HB2.out)
          have HV2 := Aside.mk (HV.out.mono (ok' := fun k => w.heap.size ≤ k) fun k hk _ => Nat.le_trans HX1.out.bel.size hk)
          clear HV HK q HR HNV HB2 HX1
          obtain ⟨B4, f4, rfl⟩ := Sl.form HV2.out
          by_cases h0 : getErr s.l o.id = 0
          · have H0 := Aside.mk h0
            have EE := Aside.mk (HE.out.trans h0)
            rw [h0]
            clear h0
            obtain ⟨A1, c1, A2, c2, A3, c3, A4, c4, hkn, _, _, _, hnv⟩ := HX2.out.kn
            have hal := (Below.refl wc.heap.size wc).alloc (Nat.le_refl _) (.cells #[.int .i64 o.who.role, .int .i64 o.who.why, .int .i64 o.who.time, .string o.id] 116)
            have hk2 := hkn.step hal
            have HBA := Aside.mk (below_step hal (below_drewN (Below.refl _ _) 1))
            have HOA := Aside.mk (hnv ▸ HX2.out.nn.below (below_step hal (below_drewN (Below.refl _ _) 1)))
            have HNV := Aside.mk hnv
            clear hal hnv
            go_wp2_with fail
            go_region_law
              (refine step_one (w0 := _) nteR base rfl (.tmp 49) (.tmp 55) 43 116 _ 40 rfl Tryz.underlying43 infoNt rfl (by decide) (by decide) (.slice A4 s.notes.length c4) s.notes ⟨o.who, o.id⟩ [.int .i64 o.who.role, .int .i64 o.who.why, .int .i64 o.who.time, .string o.id] (fun _ => False) wc.heap.size 1 rfl rfl (blk_new wc _ _) (nteK.2 rfl) HOA.out (Below.refl _ _) (Nat.le_trans HBS.out (Nat.le_trans HX2.out.bel.size HBA.out.size)) HL60.out ?_
               intro v2 w3 hO2 _ hg2 hat2
               obtain ⟨X3, d3, rfl⟩ := Sl.form hO2.sl
               rw [← HNV.out] at hg2 hat2
               have hfin := needed_ok HK7.out EE.out HX2.out HFF.out HNG.out HGL.out HNL.out HBA.out hg2 hO2 hat2 rfl HV2.out
               rw [show (s.notes ++ [(⟨o.who, o.id⟩ : Nte)]).length = s.notes.length + 1 by simp] at hfin
               have hga2 : w3.heap[g]? = wc.heap[g]? := (hg2.block g (Nat.lt_of_lt_of_le HX2.out.srv.lt HBA.out.size) (fun e => HNG.out g e.symm rfl)).trans (HBA.out.block g HX2.out.srv.lt)
               have z3 : w3.cell? ⟨g, 3, none⟩ = some (.slice A4 s.notes.length c4) := (World.cell?_of_block (w := wc) (w' := w3) (a := ⟨g, 3, none⟩) hga2).trans hkn.2.2.2.1
               have fz3 : w3.frozen? ⟨g, 3, none⟩ = false := HX2.out.frz hga2
               have HFIN := Aside.mk hfin
               clear hO2 hg2 hat2 hfin hga2)
            all_goals
              go_wp2_with fail
              go_ret2
              exact ⟨_, by rw [EE.out]; rfl, by rw [HVS.out]; exact HFIN.out.2, HFIN.out.1⟩
          · have g5 : (getErr s.l o.id == 0) = false := by simp [h0]
            have HE2 := Aside.mk (show needE s o ≠ 0 by rw [HE.out]; exact h0)
            clear h0
            go_wp2_with fail
            go_ret2
            exact ⟨_, by rw [HE.out]; rfl, by rw [HVS.out]; exact HV2.out, .same HK7.out HE2.out HX2.out.srv HX2.out.nn HX2.out.bel⟩
end Go.Proofs.WK
