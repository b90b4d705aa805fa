/-
  (*wyref.Server).Do (P36 to P42): rules, put, cut.
-/
import Derived.Test.YtljjiicjnoljbaaGreatDoorSrvE
import Derived.Test.YtljjiicjnoljbaaGreatDoorRDoP
import Derived.Test.YtljjiicjnoljbaaGreatDoorRef0
namespace Go.Proofs.WK
open Go.RowKit Rp
theorem refFail (x : Int) (w : World) : Calls Tryz.prog 99 #[.int .i64 x] w fun e w' => e = .returned (.agg #[.int .i64 x, .slice none 0 0, .slice none 0 0, .slice none 0 0]) ∧ Below w.heap.size w w' := by
  go_enter Tryz.func99, Tryz.ntmps99
  go_wp2_with fail
  have q := (Bk.made w [.int .i64 x, .slice none 0 0, .slice none 0 0, .slice none 0 0] 45).four
  refine bodyPost_ret (v := .agg #[.int .i64 x, .slice none 0 0, .slice none 0 0, .slice none 0 0]) ?_ rfl ⟨rfl, (Below.refl _ _).alloc (Nat.le_refl _) _⟩
  simp [results, Tryz.results99, go_sem, q]
/-- The boxes of the document's Do: what is asked, what is told; and the lists that are asked with. -/
structure RX (w : World) (g : Nat) (F Y : Nat → Prop) (s : Srv) (o : OpV) (B1 B2 B3 : Option Addr) (e1 e2 e3 : Nat) (W : World) : Prop where
  srv : SrvIs W g F s
  bo : Bk W w.heap.size (opC o B1 e1 B2 e2 B3 e3)
  b1 : Bk W (w.heap.size + 1) tz
  bel : Below w.heap.size w W
  sz : w.heap.size + 1 + 1 ≤ W.heap.size
  r : rulR.Row W Y B1 o.rules
  f : fldR.Row W Y B2 o.r.fields
  g : str.Row W Y B3 o.r.refs
variable {w W W' : World} {g : Nat} {F Y : Nat → Prop} {s : Srv} {o : OpV} {B1 B2 B3 : Option Addr} {e1 e2 e3 : Nat}
theorem RX.below (h : RX w g F Y s o B1 B2 B3 e1 e2 e3 W) (hb : Below W.heap.size W W') : RX w g F Y s o B1 B2 B3 e1 e2 e3 W' :=
  ⟨h.srv.below hb, h.bo.below hb, h.b1.below hb, below_step h.bel hb, Nat.le_trans h.sz hb.size, h.r.below hb, h.f.below hb, h.g.below hb⟩
theorem RX.start (h : SrvIs w g F s) (hr : rulR.Row w Y B1 o.rules) (hf : fldR.Row w Y B2 o.r.fields) (hg : str.Row w Y B3 o.r.refs) : RX w g F Y s o B1 B2 B3 e1 e2 e3 ((w.alloc (.cells (opC o B1 e1 B2 e2 B3 e3).toArray 40)).alloc (.cells tz.toArray 45)) := by
  have hb0 : Below w.heap.size w ((w.alloc (.cells (opC o B1 e1 B2 e2 B3 e3).toArray 40)).alloc (.cells tz.toArray 45)) := ((Below.refl _ _).alloc (Nat.le_refl _) _).alloc (by simp) _
  have hb1 := Bk.made (w.alloc (.cells (opC o B1 e1 B2 e2 B3 e3).toArray 40)) tz 45
  rw [show (w.alloc (.cells (opC o B1 e1 B2 e2 B3 e3).toArray 40)).heap.size = w.heap.size + 1 by simp] at hb1
  exact ⟨h.below hb0, (Bk.made w _ _).alloc _, hb1, hb0, by simp, hr.below hb0, hf.below hb0, hg.below hb0⟩
/-- All cells that are read. -/
theorem RX.cells (h : RX w g F Y s o B1 B2 B3 e1 e2 e3 W) : ∃ A1 c1 A2 c2 A3 c3 A4 c4,
    (W.cell? { block := g, off := 0 } = some (.slice A1 s.up.length c1) ∧ W.cell? { block := g, off := 1 } = some (.slice A2 s.rules.length c2) ∧ W.cell? { block := g, off := 2 } = some (.slice A3 s.l.length c3) ∧ W.cell? { block := g, off := 3 } = some (.slice A4 s.notes.length c4) ∧ (∀ x, W.frozen? { block := g, off := x } = false) ∧
      w.heap.size < W.heap.size ∧ W.cell? ⟨w.heap.size, 0, none⟩ = some (.int .i64 o.kind) ∧ W.cell? ⟨w.heap.size, 1, none⟩ = some (.int .i64 o.who.role) ∧ W.cell? ⟨w.heap.size, 2, none⟩ = some (.int .i64 o.who.why) ∧ W.cell? ⟨w.heap.size, 3, none⟩ = some (.int .i64 o.who.time) ∧
      W.cell? ⟨w.heap.size, 4, none⟩ = some (.slice B1 o.rules.length e1) ∧ W.cell? ⟨w.heap.size, 5, none⟩ = some (.string o.r.id) ∧ W.cell? ⟨w.heap.size, 6, none⟩ = some (.int .i64 o.r.cats) ∧ W.cell? ⟨w.heap.size, 7, none⟩ = some (.slice B2 o.r.fields.length e2) ∧ W.cell? ⟨w.heap.size, 8, none⟩ = some (.slice B3 o.r.refs.length e3) ∧ W.cell? ⟨w.heap.size, 9, none⟩ = some (.string o.id) ∧
      W.cell? ⟨w.heap.size, 10, none⟩ = some (.string o.f.key) ∧ W.cell? ⟨w.heap.size, 11, none⟩ = some (.string o.f.val) ∧
      W.cell? ⟨w.heap.size + 1, 0, none⟩ = some (.int .i64 0) ∧ W.cell? ⟨w.heap.size + 1, 1, none⟩ = some (.slice none 0 0) ∧ W.cell? ⟨w.heap.size + 1, 2, none⟩ = some (.slice none 0 0) ∧ W.cell? ⟨w.heap.size + 1, 3, none⟩ = some (.slice none 0 0) ∧ ∀ x, W.frozen? ⟨w.heap.size + 1, x, none⟩ = false) ∧
    (s.up.length ≤ 9223372036854775807 ∧ int.Row W F A1 s.up) ∧ (s.rules.length ≤ 9223372036854775807 ∧ rulR.Row W F A2 s.rules) ∧ (s.l.length ≤ c3 ∧ verR.Row W F A3 s.l) ∧ s.nv = .slice A4 s.notes.length c4 := by
  obtain ⟨A1, c1, A2, c2, A3, c3, A4, c4, h0, h1, h2, h3, h4⟩ := h.srv
  exact ⟨A1, c1, A2, c2, A3, c3, A4, c4, ⟨h0.cell 0, h0.cell 1, h0.cell 2, h0.cell 3, h0.frozen, h.bo.lt, h.bo.cell 0, h.bo.cell 1, h.bo.cell 2, h.bo.cell 3, h.bo.cell 4, h.bo.cell 5, h.bo.cell 6, h.bo.cell 7, h.bo.cell 8, h.bo.cell 9, h.bo.cell 10, h.bo.cell 11, h.b1.cell 0, h.b1.cell 1, h.b1.cell 2, h.b1.cell 3, h.b1.frozen⟩, ⟨h1.2.1, h1.2⟩, ⟨h2.2.1, h2.2⟩, h3, h4⟩
/-- What is told, laid in its box. -/
theorem told4_chg {S : Nat → Prop} {w1 : World} {a : Nat} {c d e f : Value} (ha : S a) : Chg S w1 ((((w1.setCell ⟨a, 0, none⟩ c).setCell ⟨a, 1, none⟩ d).setCell ⟨a, 2, none⟩ e).setCell ⟨a, 3, none⟩ f) :=
  (((chg_set S w1 a 0 c ha).trans (chg_set S _ a 1 d ha) fun _ _ h => h).trans (chg_set S _ a 2 e ha) fun _ _ h => h).trans (chg_set S _ a 3 f ha) fun _ _ h => h
/-- Nothing has changed but what is told: an error. -/
theorem DidN.no {w1 : World} {base : Nat} {X : Nat → Prop} {x : Int} {c d e f : Value} (hk : o.kind ≠ 7) (hs : SrvIs w g (fun k => X k ∧ k < w.heap.size) s) (hb : Below w.heap.size w w1) (hn : NOwn w base s.nv s.notes) (hng : ∀ k, s.nv.ownBlock = some k → k ≠ g) (he : doS s o = (s, .err x)) :
    DidN w g base X s o (.returned (.agg #[.int .i64 x, .slice none 0 0, .slice none 0 0, .slice none 0 0])) ((((w1.setCell ⟨w.heap.size + 1, 0, none⟩ c).setCell ⟨w.heap.size + 1, 1, none⟩ d).setCell ⟨w.heap.size + 1, 2, none⟩ e).setCell ⟨w.heap.size + 1, 3, none⟩ f) := by
  have hb2 : Below w.heap.size w ((((w1.setCell ⟨w.heap.size + 1, 0, none⟩ c).setCell ⟨w.heap.size + 1, 1, none⟩ d).setCell ⟨w.heap.size + 1, 2, none⟩ e).setCell ⟨w.heap.size + 1, 3, none⟩ f) :=
    below_set (below_set (below_set (below_set hb (by show w.heap.size ≤ w.heap.size + 1; omega) _) (by show w.heap.size ≤ w.heap.size + 1; omega) _) (by show w.heap.size ≤ w.heap.size + 1; omega) _) (by show w.heap.size ≤ w.heap.size + 1; omega) _
  refine .quiet hk (by rw [he]; rfl) ?_ ?_ ?_ ?_ hn hng (below_grown hb2 _)
  · rw [he]; exact Sl.nil _ _ _
  · rw [he]; exact Sl.nil _ _ _
  · rw [he]; exact Sl.nil _ _ _
  · rw [he]; exact (hs.below hb2).more fun k hk _ => .inl hk
theorem cell_set_ne {w1 : World} {a b i j : Nat} {u : Value} (h : b ≠ a) : (w1.setCell ⟨a, i, none⟩ u).cell? ⟨b, j, none⟩ = w1.cell? ⟨b, j, none⟩ := World.cell?_of_block (Below.heap_setCell _ _ _ b h)
set_option maxHeartbeats 8000000 in
set_option maxRecDepth 100000 in
theorem rdRules (g base : Nat) (X Y : Nat → Prop) (s : Srv) (o : OpV) (hk : o.kind = 1) (B1 : Option Addr) (e1 : Nat) (B2 : Option Addr) (e2 : Nat) (B3 : Option Addr) (e3 : Nat) (w : World) (h : SrvIs w g X s) (hX : ∀ k, X k → k ≠ g ∧ some k ≠ s.nv.ownBlock) (hY : ∀ k, Y k → X k ∧ k < w.heap.size) (hn : NOwn w base s.nv s.notes) (hng : ∀ k, s.nv.ownBlock = some k → k ≠ g)
    (hr : rulR.Row w Y B1 o.rules) (hr1 : o.rules.length ≤ e1) (hf : fldR.Row w Y B2 o.r.fields) (hg : str.Row w Y B3 o.r.refs) :
    Calls Tryz.prog 37 #[.pointer (some ⟨g, 0, none⟩), opVal o B1 e1 B2 e2 B3 e3] w (DidN w g base X s o) := by
  have h' : SrvIs w g (fun k => X k ∧ k < w.heap.size) s := h.more fun k h1 h2 => ⟨h1, h2⟩
  have HX := Aside.mk (RX.start (e1 := e1) (e2 := e2) (e3 := e3) h' hr hf hg)
  have H0 := Aside.mk (And.intro h' (And.intro hn hng))
  have HYX := Aside.mk hY
  have HXX := Aside.mk hX
  have HR1 := Aside.mk hr1
  have HL := hr.1
  have HK := Aside.mk hk
  have ED := Aside.mk (doS_rules (s := s) hk)
  have k1 : (o.kind == 1) = true := by rw [hk]; rfl
  clear h h' hX hY hn hng hr hr1 hf hg hk
  unfold opVal
  go_enter Tryz.func37, Tryz.ntmps37
  go_upto_region 1 with fail
  generalize hw0 : (w.alloc _).alloc _ = w0
  have hx0 : RX w g (fun k => X k ∧ k < w.heap.size) Y s o B1 B2 B3 e1 e2 e3 w0 := by
    rw [← hw0]
    exact HX.out
  have HX := Aside.mk hx0
  clear hw0 hx0
  obtain ⟨A1, c1, A2, c2, A3, c3, A4, c4, hc, r1, r2, r3, hnv⟩ := HX.out.cells
  clear r1 r2 r3
  go_wp2_with fail
  refine (refRules B1 e1 o.rules _ _ HX.out.r HL).mono ?_
  rintro e w1 ⟨rfl, hb⟩
  have HX1 := Aside.mk (HX.out.below hb)
  clear hb hc hnv HX
  obtain ⟨A1, c1, A2, c2, A3, c3, A4, c4, hc, r1, r2, r3, hnv⟩ := HX1.out.cells
  clear r1 r2 r3 hnv
  by_cases h0 : rulesErr o.rules = 0
  · have hE : doS s o = ({ s with rules := o.rules }, .err 0) := by rw [ED.out, if_pos h0, h0]
    have HE := Aside.mk hE
    rw [h0]
    clear h0 hE
    have hne : g ≠ w.heap.size + 1 := fun e => by have := H0.out.1.lt; omega
    have hne2 : w.heap.size + 1 ≠ g := fun e => hne e.symm
    have hne3 : w.heap.size ≠ g := fun e => by have := H0.out.1.lt; omega
    go_wp2_with fail
    refine bodyPost_ret (v := .agg #[.int .i64 0, .slice none 0 0, .slice none 0 0, .slice none 0 0]) ?_ rfl ?_
    · simp [results, Tryz.results37, go_sem, hc]
    · have h1 := HX1.out.srv.setR (fun k hk => (HXX.out k hk.1).1) (v := .slice B1 o.rules.length e1) (l := o.rules) ⟨B1, e1, rfl, HR1.out, HX1.out.r.mono fun k hk _ => HYX.out k hk⟩
      have hg1 := (below_grown HX1.out.bel (some g)).trans (grown_set w1 g 1 (.slice B1 o.rules.length e1))
      refine .quiet (by rw [HK.out]; decide) (by rw [HE.out]; rfl) ?_ ?_ ?_ ?_ H0.out.2.1 H0.out.2.2 (grown_new (grown_new (grown_new (grown_new hg1 (by omega) _ _) (by omega) _ _) (by omega) _ _) (by omega) _ _)
      · rw [HE.out]; exact Sl.nil _ _ _
      · rw [HE.out]; exact Sl.nil _ _ _
      · rw [HE.out]; exact Sl.nil _ _ _
      · rw [HE.out]; exact (srv_chg h1 (told4_chg (S := fun k => k = w.heap.size + 1) rfl) hne (fun k hk e => by have := hk.2; omega)).more fun k hk _ => .inl hk
  · have hE : doS s o = (s, .err (rulesErr o.rules)) := by rw [ED.out, if_neg h0]
    have HE := Aside.mk hE
    have g3 : (rulesErr o.rules != 0) = true := by simp [h0]
    clear h0 hE
    go_wp2_with fail
    refine (refFail _ _).mono ?_
    rintro e w2 ⟨rfl, hb⟩
    have HX2 := Aside.mk (HX1.out.below hb)
    clear hb hc HX1
    obtain ⟨A1, c1, A2, c2, A3, c3, A4, c4, hc, r1, r2, r3, hnv⟩ := HX2.out.cells
    clear r1 r2 r3 hnv
    go_wp2_with fail
    refine bodyPost_ret (v := .agg #[.int .i64 (rulesErr o.rules), .slice none 0 0, .slice none 0 0, .slice none 0 0]) ?_ rfl (.no (by rw [HK.out]; decide) H0.out.1 HX2.out.bel H0.out.2.1 H0.out.2.2 HE.out)
    simp [results, Tryz.results37, go_sem, hc]
end Go.Proofs.WK
