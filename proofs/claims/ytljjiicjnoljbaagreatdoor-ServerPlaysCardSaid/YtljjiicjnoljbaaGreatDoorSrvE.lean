/-
  (*Server).Do at the kinds 7, 8 and those that there are not; one contract for all.
-/
import Derived.Test.YtljjiicjnoljbaaGreatDoorSrvM
namespace Go.Proofs.WK
open Go.RowKit Rp
theorem bk12 {w : World} {n : Nat} {a0 a1 a2 a3 a4 a5 a6 a7 a8 a9 a10 a11 : Value} (h : Bk w n [a0, a1, a2, a3, a4, a5, a6, a7, a8, a9, a10, a11]) : n < w.heap.size ∧ w.cell? ⟨n, 0, none⟩ = some a0 ∧ w.cell? ⟨n, 1, none⟩ = some a1 ∧ w.cell? ⟨n, 2, none⟩ = some a2 ∧ w.cell? ⟨n, 3, none⟩ = some a3 ∧ w.cell? ⟨n, 4, none⟩ = some a4 ∧ w.cell? ⟨n, 5, none⟩ = some a5 ∧ w.cell? ⟨n, 6, none⟩ = some a6 ∧ w.cell? ⟨n, 7, none⟩ = some a7 ∧ w.cell? ⟨n, 8, none⟩ = some a8 ∧ w.cell? ⟨n, 9, none⟩ = some a9 ∧ w.cell? ⟨n, 10, none⟩ = some a10 ∧ w.cell? ⟨n, 11, none⟩ = some a11 ∧ ∀ x, w.frozen? ⟨n, x, none⟩ = false :=
  ⟨h.lt, h.cell 0, h.cell 1, h.cell 2, h.cell 3, h.cell 4, h.cell 5, h.cell 6, h.cell 7, h.cell 8, h.cell 9, h.cell 10, h.cell 11, h.frozen⟩
def tz : List Value := [.int .i64 0, .slice none 0 0, .slice none 0 0, .slice none 0 0]
/-- The boxes of Do: what is asked, what is told, twice. -/
structure DX (w : World) (g : Nat) (F : Nat → Prop) (s : Srv) (cs : List Value) (W : World) : Prop where
  srv : SrvIs W g F s
  bo : Bk W w.heap.size cs
  b1 : Bk W (w.heap.size + 1) tz
  b2 : Bk W (w.heap.size + 1 + 1) tz
  bel : Below w.heap.size w W
  sz : w.heap.size + 1 + 1 + 1 ≤ W.heap.size
theorem DX.below {w W W' : World} {g : Nat} {F : Nat → Prop} {s : Srv} {cs : List Value} (h : DX w g F s cs W) (hb : Below W.heap.size W W') : DX w g F s cs W' :=
  ⟨h.srv.below hb, h.bo.below hb, h.b1.below hb, h.b2.below hb, below_step h.bel hb, Nat.le_trans h.sz hb.size⟩
theorem DX.start {w : World} {g : Nat} {F : Nat → Prop} {s : Srv} (h : SrvIs w g F s) (cs : List Value) (t1 t2 : TypeId) : DX w g F s cs (((w.alloc (.cells cs.toArray t1)).alloc (.cells tz.toArray t2)).alloc (.cells tz.toArray t2)) := by
  have hb0 : Below w.heap.size w (((w.alloc (.cells cs.toArray t1)).alloc (.cells tz.toArray t2)).alloc (.cells tz.toArray t2)) := (((Below.refl _ _).alloc (Nat.le_refl _) _).alloc (by simp) _).alloc (by simp; omega) _
  have hb1 := (Bk.made (w.alloc (.cells cs.toArray t1)) tz t2).alloc (.cells tz.toArray t2)
  have hb2 := Bk.made ((w.alloc (.cells cs.toArray t1)).alloc (.cells tz.toArray t2)) tz t2
  rw [show (w.alloc (.cells cs.toArray t1)).heap.size = w.heap.size + 1 by simp] at hb1
  rw [show ((w.alloc (.cells cs.toArray t1)).alloc (.cells tz.toArray t2)).heap.size = w.heap.size + 1 + 1 by simp] at hb2
  exact ⟨h.below hb0, ((Bk.made w cs t1).alloc _).alloc _, hb1, hb2, hb0, by simp⟩
theorem needed_lift {w W3 w1 w2 : World} {g base : Nat} {F : Nat → Prop} {s : Srv} {o : OpV} (hb0 : Below w.heap.size w W3) (h : Needed W3 g base F s o w1) (hc : Chg (fun k => w.heap.size ≤ k ∧ k < W3.heap.size) w1 w2) (hF : ∀ k, F k → k < w.heap.size) (hg : g < w.heap.size) (hnl : ∀ k, s.nv.ownBlock = some k → k < w.heap.size) :
    Needed w g base F s o w2 := by
  obtain ⟨nv, h1, h2, h3, h4⟩ := h
  refine ⟨nv, srv_chg h1 hc (by omega) (fun k hk => by have := hF k hk; omega), nown_chg h2 hc (fun k hk => ?_), h3.imp id fun ⟨b, e, hb⟩ => ⟨b, e, Nat.le_trans hb0.size hb⟩, ?_⟩
  · rcases h3 with e | ⟨b, e, hb⟩
    · have := hnl k (e ▸ hk); omega
    · rw [e] at hk; injection hk with hk; omega
  · exact ((Chg.of_below hb0).trans (S' := fun k => k = g ∨ s.nv.ownBlock = some k) h4 fun k _ h => h).trans (S' := fun k => w.heap.size ≤ k ∧ k < W3.heap.size) hc fun k hk h => by omega
theorem bk_chg {w w' : World} {n : Nat} {cs : List Value} {S : Nat → Prop} (h : Bk w n cs) (hg : Chg S w w') (hn : ¬ S n) : Bk w' n cs := by
  obtain ⟨t, h1⟩ := h
  exact ⟨t, (hg.block n (Array.getElem?_eq_some_iff.1 h1).1 hn).trans h1⟩
theorem look_chg {S : Nat → Prop} {w : World} {a b : Nat} {x u c d e f : Value} {j : Nat} (ha : S a) (hb : S b) : Chg S w ((((((w.setCell ⟨b, j, none⟩ x).setCell ⟨b, 0, none⟩ u).setCell ⟨a, 0, none⟩ c).setCell ⟨a, 1, none⟩ d).setCell ⟨a, 2, none⟩ e).setCell ⟨a, 3, none⟩ f) :=
  (((((chg_set S w b j x hb).trans (chg_set S _ b 0 u hb) fun _ _ h => h).trans (chg_set S _ a 0 c ha) fun _ _ h => h).trans (chg_set S _ a 1 d ha) fun _ _ h => h).trans (chg_set S _ a 2 e ha) fun _ _ h => h).trans (chg_set S _ a 3 f ha) fun _ _ h => h
set_option maxHeartbeats 4000000 in
set_option maxRecDepth 100000 in
theorem doNeed (g base : Nat) (F : Nat → Prop) (s : Srv) (o : OpV) (hk : o.kind = 7) (B1 : Option Addr) (e1 : Nat) (B2 : Option Addr) (e2 : Nat) (B3 : Option Addr) (e3 : Nat) (w : World) (h : SrvIs w g F s) (hF : ∀ k, F k → k ≠ g ∧ some k ≠ s.nv.ownBlock) (hFl : ∀ k, F k → k < w.heap.size) (hn : NOwn w base s.nv s.notes) (hbase : base ≤ w.heap.size) (hng : ∀ k, s.nv.ownBlock = some k → k ≠ g) (h60 : s.notes.length ≤ 60) :
    Calls Tryz.prog 12 #[.pointer (some ⟨g, 0, none⟩), opVal o B1 e1 B2 e2 B3 e3] w fun e w' => ∃ v, e = .returned (.agg #[.int .i64 (needE s o), v, .slice none 0 0, .slice none 0 0]) ∧ verR.Sl w' (fun k => w.heap.size ≤ k) v (doS s o).2.vers ∧ Needed w g base F s o w' := by
  have HX := Aside.mk (DX.start h (opC o B1 e1 B2 e2 B3 e3) 40 45)
  have HGL := Aside.mk h.lt
  have HNL := Aside.mk (fun k hk => (hn.lt k hk).2)
  have HN := Aside.mk (fun W (hb : Below w.heap.size w W) => nown_chg (S := fun k => w.heap.size ≤ k) hn (Chg.of_below hb) fun k hk => by have := (hn.lt k hk).2; omega)
  have HD := Aside.mk (fun (W : World) (hs : SrvIs W g F s) (hW : Below w.heap.size w W) => serverNeed g base F s o hk B1 e1 B2 e2 B3 e3 W hs hF (HN.out W hW) (Nat.le_trans hbase hW.size) hng h60)
  have HFL := Aside.mk hFl
  clear h hF hFl hn hbase hng h60
  unfold opVal at *
  unfold opC tz at HX
  rw [hk] at HX HD ⊢
  have hkk := Aside.mk hk
  clear hk
  go_enter Tryz.func12, Tryz.ntmps12
  go_upto_region 2 with fail
  generalize hw0 : ((w.alloc _).alloc _).alloc _ = w0 at HX ⊢
  clear hw0
  have q0 := bk12 HX.out.bo
  go_wp2_with fail
  refine (HD.out _ HX.out.srv HX.out.bel).mono ?_
  rintro e w1 ⟨v, rfl, hs, hnd⟩
  have hc : Chg (fun k => k = g ∨ s.nv.ownBlock = some k) w0 w1 := by obtain ⟨_, _, _, _, h⟩ := hnd; exact h
  have hn1 : ¬ (w.heap.size + 1 = g ∨ s.nv.ownBlock = some (w.heap.size + 1)) := fun h => h.elim (fun e => by have := HGL.out; omega) fun e => by have := HNL.out _ e; omega
  have hn2 : ¬ (w.heap.size + 1 + 1 = g ∨ s.nv.ownBlock = some (w.heap.size + 1 + 1)) := fun h => h.elim (fun e => by have := HGL.out; omega) fun e => by have := HNL.out _ e; omega
  have q1 := Bk.four (bk_chg HX.out.b1 hc hn1)
  have q2 := Bk.four (bk_chg HX.out.b2 hc hn2)
  have HV := Aside.mk hs
  have HND := Aside.mk hnd
  obtain ⟨X, d, rfl⟩ := Sl.form hs
  clear hs hnd hc hn1 hn2 q0
  go_wp2_with fail
  refine bodyPost_ret (v := .agg #[.int .i64 (needE s o), _, .slice none 0 0, .slice none 0 0]) ?_ rfl ⟨_, rfl, (HV.out.move fun k hk _ => look_heap ?_ ?_).mono fun k hk _ => Nat.le_trans HX.out.bel.size hk, needed_lift HX.out.bel HND.out (look_chg ?_ ?_) HFL.out HGL.out HNL.out⟩
  · simp [results, Tryz.results12, go_sem, q1]
  all_goals
    have := HX.out.sz
    first
    | (have hk' : w0.heap.size ≤ k := hk; omega)
    | exact ⟨by omega, by omega⟩
theorem told_heapj {w : World} {a b k j : Nat} {u c d e f : Value} (ha : k ≠ a) (hb : k ≠ b) : (((((w.setCell ⟨b, j, none⟩ u).setCell ⟨a, 0, none⟩ c).setCell ⟨a, 1, none⟩ d).setCell ⟨a, 2, none⟩ e).setCell ⟨a, 3, none⟩ f).heap[k]? = w.heap[k]? := by
  rw [sets4 ha]
  exact Below.heap_setCell _ _ _ k hb
theorem tell_belowj {w w1 : World} {a b j : Nat} {u c d e f : Value} (h : Below w.heap.size w w1) (ha : w.heap.size ≤ a) (hb : w.heap.size ≤ b) : Below w.heap.size w (((((w1.setCell ⟨b, j, none⟩ u).setCell ⟨a, 0, none⟩ c).setCell ⟨a, 1, none⟩ d).setCell ⟨a, 2, none⟩ e).setCell ⟨a, 3, none⟩ f) :=
  below_set (below_set (below_set (below_set (below_set h hb _) ha _) ha _) ha _) ha _
theorem own_nte {t : TypeId} {w : World} {base : Nat} {ok : Nat → Prop} {v : Value} {xs : List Nte} (h : nteR.Own t w base ok v xs) : nteR.Own t w base (fun _ => False) v xs := by
  obtain ⟨inner, h1, h2, h3⟩ := h
  exact ⟨inner, h1, h2, fun j p hp => nteK.2 (nteK.1 (h3 j p hp))⟩
def auditT (s : Srv) (o : OpV) : Told := if seesErr s.up s.rules o.who ≠ 0 then .err (seesErr s.up s.rules o.who) else if (seesV s.up s.rules o.who : Int) ≠ 255 then .err 6 else ⟨0, [], [], s.notes⟩
theorem doS_audit {s : Srv} {o : OpV} (hk : o.kind = 8) : doS s o = (s, auditT s o) := by
  unfold doS
  rw [if_neg (by omega), if_neg (by omega), if_neg (by omega), if_neg (by omega), if_pos hk]
  rfl
theorem DX.kn {w W : World} {g : Nat} {F : Nat → Prop} {s : Srv} {o : OpV} {B1 B2 B3 : Option Addr} {e1 e2 e3 : Nat} (h : DX w g F s (opC o B1 e1 B2 e2 B3 e3) W) : ∃ A1 c1 A2 c2 A3 c3 A4 c4, Kn W g w.heap.size (.slice A1 s.up.length c1) (.slice A2 s.rules.length c2) (.slice A3 s.l.length c3) (.slice A4 s.notes.length c4) o.who o.id ∧
    (s.up.length ≤ 9223372036854775807 ∧ int.Row W F A1 s.up) ∧ (s.rules.length ≤ 9223372036854775807 ∧ rulR.Row W F A2 s.rules) ∧ (s.l.length ≤ c3 ∧ verR.Row W F A3 s.l) ∧ s.nv = .slice A4 s.notes.length c4 := by
  obtain ⟨A1, c1, A2, c2, A3, c3, A4, c4, h0, h1, h2, h3, h4⟩ := h.srv
  exact ⟨A1, c1, A2, c2, A3, c3, A4, c4, ⟨h0.cell 0, h0.cell 1, h0.cell 2, h0.cell 3, h.bo.cell 1, h.bo.cell 2, h.bo.cell 3, h.bo.cell 9⟩, ⟨h1.2.1, h1.2⟩, ⟨h2.2.1, h2.2⟩, h3, h4⟩
set_option maxHeartbeats 8000000 in
set_option maxRecDepth 100000 in
theorem doAudit (g base : Nat) (F : Nat → Prop) (s : Srv) (o : OpV) (hk : o.kind = 8) (B1 : Option Addr) (e1 : Nat) (B2 : Option Addr) (e2 : Nat) (B3 : Option Addr) (e3 : Nat) (w : World) (h : SrvIs w g F s) (hn : NOwn w base s.nv s.notes) (h60 : s.notes.length ≤ 60) :
    Calls Tryz.prog 12 #[.pointer (some ⟨g, 0, none⟩), opVal o B1 e1 B2 e2 B3 e3] w fun e w' => ∃ v, e = .returned (.agg #[.int .i64 (doS s o).2.code, .slice none 0 0, .slice none 0 0, v]) ∧ nteR.Sl w' (fun k => w.heap.size ≤ k) v (doS s o).2.notes ∧ Below w.heap.size w w' := by
  have HX := Aside.mk (DX.start h (opC o B1 e1 B2 e2 B3 e3) 40 45)
  have HN := Aside.mk (fun W (hb : Below w.heap.size w W) => nown_chg (S := fun k => w.heap.size ≤ k) hn (Chg.of_below hb) fun k hk => by have := (hn.lt k hk).2; omega)
  have HL60 := Aside.mk (show s.notes.length * 40 ≤ 140737488355328 by omega)
  have ED := Aside.mk (show (doS s o).2 = auditT s o by rw [doS_audit hk])
  rw [ED.out]
  clear h hn h60
  unfold opVal at *
  unfold opC tz at HX
  have hkk := Aside.mk hk
  rw [hk] at HX ⊢
  clear hk
  go_enter Tryz.func12, Tryz.ntmps12
  go_upto_region 2 with fail
  generalize hw0 : ((w.alloc _).alloc _).alloc _ = w0 at HX ⊢
  clear hw0
  have HX0 : Aside (DX w g F s (opC o B1 e1 B2 e2 B3 e3) w0) := ⟨by
    have h := HX.out
    rw [← hkk.out] at h
    exact h⟩
  obtain ⟨A1, c1, A2, c2, A3, c3, A4, c4, hkn, r1, r2, _, hnv⟩ := HX0.out.kn
  have HK := Aside.mk hkn
  have HR := Aside.mk (And.intro r1 r2)
  have HNR := Aside.mk (show ∀ W, Below w.heap.size w W → nteR.Row W (fun _ => True) A4 s.notes from fun W hb => (hnv ▸ HN.out W hb).row.2.2.mono fun _ _ _ => trivial)
  have q0 := bk12 HX.out.bo
  clear hkn r1 r2 hnv
  go_upto_region 23 with fail
  go_cut [6, 7] (fun x y wx => x = .int .i64 (seesV s.up s.rules o.who) ∧ y = .int .i64 (seesErr s.up s.rules o.who) ∧ Aside (Below w0.heap.size w0 wx))
  case first =>
    go_region_held3 (fun w' => Kn w' g w.heap.size (.slice A1 s.up.length c1) (.slice A2 s.rules.length c2) (.slice A3 s.l.length c3) (.slice A4 s.notes.length c4) o.who o.id)
      (first | exact HK.out | assumption)
      (first
       | (go_at_call 54; refine (ruleSees _ _ s.up _ _ s.rules o.who _ _ _ (HR.out.1.2.below (below_drewN (Below.refl _ _) 1)) HR.out.1.1 (HR.out.2.2.below (below_drewN (Below.refl _ _) 1)) HR.out.2.1).mono ?_; rintro e w3 ⟨rfl, hb⟩
          have hb3 := below_step (below_drewN (Below.refl _ _) 1) hb
          have hx := Kn.step HK.out hb3
          have HB3 := Aside.mk hb3
          clear hb hb3))
    all_goals
      go_wp2_with fail
      go_meet
      exact ⟨rfl, rfl, HB3⟩
  case rest =>
    obtain ⟨rfl, rfl, HB1⟩ := hcut
    have HX1 := Aside.mk (HX.out.below HB1.out)
    have hk1 := HK.out.step HB1.out
    have q1 := Bk.four HX1.out.b1
    have q2 := Bk.four HX1.out.b2
    clear HX HK q0
    have EA := Aside.mk (show auditT s o = if seesErr s.up s.rules o.who ≠ 0 then .err (seesErr s.up s.rules o.who) else if (seesV s.up s.rules o.who : Int) ≠ 255 then .err 6 else ⟨0, [], [], s.notes⟩ from rfl)
    generalize seesErr s.up s.rules o.who = se at EA ⊢
    generalize seesV s.up s.rules o.who = sv at EA ⊢
    by_cases p1 : se = 0
    case neg =>
      have g3 : (se != 0) = true := by simp [p1]
      have hE : auditT s o = .err se := by rw [EA.out, if_pos p1]
      have HE := Aside.mk hE
      clear p1 hE
      go_wp2_with fail
      refine bodyPost_ret (v := .agg #[.int .i64 se, .slice none 0 0, .slice none 0 0, .slice none 0 0]) ?_ rfl ⟨_, by rw [HE.out]; rfl, by rw [HE.out]; exact Sl.nil _ _ _, tell_belowj HX1.out.bel (by omega) (by omega)⟩
      simp [results, Tryz.results12, go_sem, q1]
    case pos =>
      subst p1
      by_cases p2 : (sv : Int) = 255
      · have g4 : ((sv : Int) != 255) = false := by simp [p2]
        have hE : auditT s o = ⟨0, [], [], s.notes⟩ := by rw [EA.out, if_neg (by simp), if_neg (by simpa using p2)]
        have HE := Aside.mk hE
        clear p2 hE
        go_wp2_with fail
        refine (cloneN _ _ s.notes _ _ (HNR.out _ HX1.out.bel) HL60.out).mono ?_
        rintro e w2 ⟨v, rfl, ho, hb⟩
        have HX2 := Aside.mk (HX1.out.below hb)
        have HV := Aside.mk ((own_nte ho).sl.mono (ok' := fun k => wc.heap.size ≤ k) fun k hk _ => (ho.lt k (hk.elim False.elim id)).1)
        have q1' := Bk.four HX2.out.b1
        have q2' := Bk.four HX2.out.b2
        have hsz1 := HX1.out.sz
        obtain ⟨Y, dy, rfl⟩ := Sl.form ho.sl
        clear q1 q2 hk1 hb ho
        go_wp2_with fail
        refine bodyPost_ret (v := .agg #[.int .i64 0, .slice none 0 0, .slice none 0 0, .slice Y s.notes.length dy]) ?_ rfl ⟨_, by rw [HE.out], by rw [HE.out]; exact (HV.out.move fun k hk _ => told_heapj (by have hk' : wc.heap.size ≤ k := hk; omega) (by have hk' : wc.heap.size ≤ k := hk; omega)).mono fun k hk _ => Nat.le_trans HX1.out.bel.size hk, tell_belowj HX2.out.bel (by omega) (by omega)⟩
        simp [results, Tryz.results12, go_sem, q1']
      · have g4 : ((sv : Int) != 255) = true := by simp [p2]
        have hE : auditT s o = .err 6 := by rw [EA.out, if_neg (by simp), if_pos p2]
        have HE := Aside.mk hE
        clear p2 hE
        go_wp2_with fail
        refine bodyPost_ret (v := .agg #[.int .i64 6, .slice none 0 0, .slice none 0 0, .slice none 0 0]) ?_ rfl ⟨_, by rw [HE.out]; rfl, by rw [HE.out]; exact Sl.nil _ _ _, tell_belowj HX1.out.bel (by omega) (by omega)⟩
        simp [results, Tryz.results12, go_sem, q1]
theorem doS_other {s : Srv} {o : OpV} (hk : ¬ (1 ≤ o.kind ∧ o.kind ≤ 8)) : doS s o = (s, .err 3) := by
  unfold doS
  rw [if_neg (by omega), if_neg (by omega), if_neg (by omega), if_neg (by omega), if_neg (by omega), if_neg (by omega)]
set_option maxHeartbeats 4000000 in
set_option maxRecDepth 100000 in
theorem doOther (g : Nat) (F : Nat → Prop) (s : Srv) (o : OpV) (hk : ¬ (1 ≤ o.kind ∧ o.kind ≤ 8)) (B1 : Option Addr) (e1 : Nat) (B2 : Option Addr) (e2 : Nat) (B3 : Option Addr) (e3 : Nat) (w : World) (h : SrvIs w g F s) :
    Calls Tryz.prog 12 #[.pointer (some ⟨g, 0, none⟩), opVal o B1 e1 B2 e2 B3 e3] w fun e w' => e = .returned (.agg #[.int .i64 3, .slice none 0 0, .slice none 0 0, .slice none 0 0]) ∧ Below w.heap.size w w' := by
  have HX := Aside.mk (DX.start h (opC o B1 e1 B2 e2 B3 e3) 40 45)
  have k1 : (o.kind == 1) = false := beq_eq_false_iff_ne.2 (by omega)
  have k2 : (o.kind == 2) = false := beq_eq_false_iff_ne.2 (by omega)
  have k3 : (o.kind == 3) = false := beq_eq_false_iff_ne.2 (by omega)
  have k4 : (o.kind == 4) = false := beq_eq_false_iff_ne.2 (by omega)
  have k5 : (o.kind == 5) = false := beq_eq_false_iff_ne.2 (by omega)
  have k6 : (o.kind == 6) = false := beq_eq_false_iff_ne.2 (by omega)
  have k7 : (o.kind == 7) = false := beq_eq_false_iff_ne.2 (by omega)
  have k8 : (o.kind == 8) = false := beq_eq_false_iff_ne.2 (by omega)
  clear h hk
  unfold opVal at *
  unfold opC tz at HX
  go_enter Tryz.func12, Tryz.ntmps12
  go_upto_region 2 with fail
  generalize hw0 : ((w.alloc _).alloc _).alloc _ = w0 at HX ⊢
  clear hw0
  have q0 := bk12 HX.out.bo
  have q1 := Bk.four HX.out.b1
  go_wp2_with fail
  refine bodyPost_ret (v := .agg #[.int .i64 3, .slice none 0 0, .slice none 0 0, .slice none 0 0]) ?_ rfl ⟨rfl, below_set (below_set (below_set (below_set HX.out.bel (by show w.heap.size ≤ w.heap.size + 1; omega) _) (by show w.heap.size ≤ w.heap.size + 1; omega) _) (by show w.heap.size ≤ w.heap.size + 1; omega) _) (by show w.heap.size ≤ w.heap.size + 1; omega) _⟩
  simp [results, Tryz.results12, go_sem, q1]
/-- What Do does and tells, whatever is asked. -/
def DidN (w : World) (g base : Nat) (X : Nat → Prop) (s : Srv) (o : OpV) (e : Ending) (w' : World) : Prop :=
  ∃ v1 v2 v3 nv, e = .returned (.agg #[.int .i64 (doS s o).2.code, v1, v2, v3]) ∧ verR.Sl w' (fun _ => True) v1 (doS s o).2.vers ∧ str.Sl w' (fun _ => True) v2 (doS s o).2.ids ∧ nteR.Sl w' (fun _ => True) v3 (doS s o).2.notes ∧
    SrvIs w' g (fun k => (X k ∧ k < w.heap.size) ∨ (w.heap.size ≤ k ∧ some k ≠ nv.ownBlock)) { (doS s o).1 with nv := nv } ∧ NOwn w' base nv (doS s o).1.notes ∧ (nv.ownBlock = s.nv.ownBlock ∨ ∃ b, nv.ownBlock = some b ∧ w.heap.size ≤ b) ∧ Chg (fun k => k = g ∨ s.nv.ownBlock = some k) w w'
theorem doS_keep {s : Srv} {o : OpV} (hk : o.kind ≠ 7) : (doS s o).1.notes = s.notes ∧ (doS s o).1.nv = s.nv := by
  by_cases h1 : o.kind = 1
  · rw [doS_rules h1]
    simp only
    split <;> exact ⟨rfl, rfl⟩
  · by_cases h2 : o.kind = 2
    · rw [doS_put h2]
      simp only
      split <;> exact ⟨rfl, rfl⟩
    · by_cases h3 : o.kind = 3
      · rw [doS_cut h3]
        simp only
        split <;> exact ⟨rfl, rfl⟩
      · by_cases h8 : o.kind = 8
        · rw [doS_audit h8]; exact ⟨rfl, rfl⟩
        · by_cases h4 : o.kind = 4 ∨ o.kind = 5 ∨ o.kind = 6
          · rw [doS_look h4]; exact ⟨rfl, rfl⟩
          · rw [doS_other (by omega)]; exact ⟨rfl, rfl⟩
theorem doS_nonotes {s : Srv} {o : OpV} (hk : o.kind ≠ 8) : (doS s o).2.notes = [] := by
  by_cases h1 : o.kind = 1
  · rw [doS_rules h1]; rfl
  · by_cases h2 : o.kind = 2
    · rw [doS_put h2]; rfl
    · by_cases h3 : o.kind = 3
      · rw [doS_cut h3]; rfl
      · by_cases h7 : o.kind = 7
        · rw [doS_need h7]
        · by_cases h4 : o.kind = 4 ∨ o.kind = 5 ∨ o.kind = 6
          · rw [doS_look h4]
            show (lookT s o).notes = []
            unfold lookT
            split
            · rfl
            · split
              · rfl
              · split <;> rfl
          · rw [doS_other (by omega)]; rfl
theorem DidN.quiet {w w' : World} {g base : Nat} {X : Nat → Prop} {s : Srv} {o : OpV} (hk : o.kind ≠ 7) {e : Ending} {v1 v2 v3 : Value} (he : e = .returned (.agg #[.int .i64 (doS s o).2.code, v1, v2, v3])) (h1 : verR.Sl w' (fun _ => True) v1 (doS s o).2.vers) (h2 : str.Sl w' (fun _ => True) v2 (doS s o).2.ids) (h3 : nteR.Sl w' (fun _ => True) v3 (doS s o).2.notes)
    (hs : SrvIs w' g (fun k => (X k ∧ k < w.heap.size) ∨ w.heap.size ≤ k) (doS s o).1) (hn : NOwn w base s.nv s.notes) (hng : ∀ k, s.nv.ownBlock = some k → k ≠ g) (hg : w.grownBy w' (some g)) : DidN w g base X s o e w' := by
  obtain ⟨e1, e2⟩ := doS_keep (s := s) (o := o) hk
  have hnl := fun k hk => (hn.lt k hk).2
  have hc : Chg (fun k => k = g ∨ s.nv.ownBlock = some k) w w' := Chg.of_grown hg fun k e => by injection e with e; exact .inl e.symm
  refine ⟨v1, v2, v3, s.nv, he, h1, h2, h3, ?_, ?_, .inl rfl, hc⟩
  · have e3 : ({ (doS s o).1 with nv := s.nv } : Srv) = (doS s o).1 := by rw [← e2]
    rw [e3]
    exact hs.more fun k hk _ => hk.imp id fun h => ⟨h, fun e => by have := hnl k e.symm; omega⟩
  · rw [e1]
    exact hn.grown hg (fun k hk e => hng k hk (by injection e)) fun k hk => hk.elim
theorem doEvery (g base : Nat) (X : Nat → Prop) (s : Srv) (o : OpV) (B1 : Option Addr) (e1 : Nat) (B2 : Option Addr) (e2 : Nat) (B3 : Option Addr) (e3 : Nat) (ok1 ok2 ok3 : Nat → Prop) (w : World) (h : SrvIs w g X s) (hX : ∀ k, X k → k ≠ g ∧ some k ≠ s.nv.ownBlock) (hn : NOwn w base s.nv s.notes) (hbase : base ≤ w.heap.size) (hng : ∀ k, s.nv.ownBlock = some k → k ≠ g) (h60 : s.notes.length ≤ 60)
    (hr : rulR.Row w ok1 B1 o.rules) (hf : fldR.Row w ok2 B2 o.r.fields) (hf2 : o.r.fields.length ≤ e2) (hg : str.Row w ok3 B3 o.r.refs) (hg2 : o.r.refs.length ≤ e3) :
    Calls Tryz.prog 12 #[.pointer (some ⟨g, 0, none⟩), opVal o B1 e1 B2 e2 B3 e3] w (DidN w g base X s o) := by
  have h' : SrvIs w g (fun k => X k ∧ k < w.heap.size) s := h.more fun k h1 h2 => ⟨h1, h2⟩
  by_cases h16 : o.kind = 1 ∨ o.kind = 2 ∨ o.kind = 3 ∨ o.kind = 4 ∨ o.kind = 5 ∨ o.kind = 6
  · refine (doAll g _ s o h16 B1 e1 B2 e2 B3 e3 ok1 ok2 ok3 w h' (fun k hk => (hX k hk.1).1) hr hf hf2 hg hg2).mono ?_
    rintro e w' ⟨v1, v2, he, s1, s2, hs, hgr⟩
    exact .quiet (by omega) he (s1.mono fun _ _ _ => trivial) (s2.mono fun _ _ _ => trivial) (by rw [doS_nonotes (by omega)]; exact Sl.nil _ _ _) hs hn hng hgr
  · by_cases h7 : o.kind = 7
    · refine (doNeed g base _ s o h7 B1 e1 B2 e2 B3 e3 w h' (fun k hk => hX k hk.1) (fun k hk => hk.2) hn hbase hng h60).mono ?_
      rintro e w' ⟨v, he, s1, nv, hs, hno, hat, hc⟩
      refine ⟨v, .slice none 0 0, .slice none 0 0, nv, ?_, s1.mono fun _ _ _ => trivial, ?_, ?_, hs.more fun k hk _ => .inl hk, hno, hat, hc⟩
      · rw [he, doS_need h7]
      · rw [doS_need h7]; exact Sl.nil _ _ _
      · rw [doS_need h7]; exact Sl.nil _ _ _
    · by_cases h8 : o.kind = 8
      · refine (doAudit g base _ s o h8 B1 e1 B2 e2 B3 e3 w h' hn h60).mono ?_
        rintro e w' ⟨v, he, s3, hb⟩
        have e0 : (doS s o).2 = auditT s o := by rw [doS_audit h8]
        have ea : (auditT s o).vers = [] ∧ (auditT s o).ids = [] := by
          unfold auditT
          split
          · exact ⟨rfl, rfl⟩
          · split <;> exact ⟨rfl, rfl⟩
        refine .quiet (by omega) he ?_ ?_ (s3.mono fun _ _ _ => trivial) ?_ hn hng (below_grown hb _)
        · rw [e0, ea.1]; exact Sl.nil _ _ _
        · rw [e0, ea.2]; exact Sl.nil _ _ _
        · rw [doS_audit h8]; exact (h'.below hb).more fun k hk _ => .inl hk
      · refine (doOther g _ s o (by omega) B1 e1 B2 e2 B3 e3 w h').mono ?_
        rintro e w' ⟨he, hb⟩
        have e0 := doS_other (s := s) (o := o) (by omega)
        refine .quiet h7 (by rw [he, e0]; rfl) ?_ ?_ ?_ ?_ hn hng (below_grown hb _)
        · rw [e0]; exact Sl.nil _ _ _
        · rw [e0]; exact Sl.nil _ _ _
        · rw [e0]; exact Sl.nil _ _ _
        · rw [e0]; exact (h'.below hb).more fun k hk _ => .inl hk
end Go.Proofs.WK
