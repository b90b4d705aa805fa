/-
  Servers in memory; server.one.
-/
import Derived.Test.YtljjiicjnoljbaaSrvP
import Derived.Test.YtljjiicjnoljbaaFindBy
import Derived.Test.YtljjiicjnoljbaaStoPut
import Derived.Deep.RegionHeld3
namespace Go.Proofs.WK
open Go.RowKit Rp
/-- Block g is a server; F: the blocks that its fields lead to. -/
def SrvIs (w : World) (g : Nat) (F : Nat → Prop) (s : Srv) : Prop :=
  ∃ A1 c1 A2 c2 A3 c3 A4 c4, Bk w g [.slice A1 s.up.length c1, .slice A2 s.rules.length c2, .slice A3 s.l.length c3, .slice A4 s.notes.length c4] ∧
    (s.up.length ≤ c1 ∧ int.Row w F A1 s.up) ∧ (s.rules.length ≤ c2 ∧ rulR.Row w F A2 s.rules) ∧ (s.l.length ≤ c3 ∧ verR.Row w F A3 s.l) ∧ (s.notes.length ≤ c4 ∧ nteR.Row w F A4 s.notes)
theorem SrvIs.below {w w' : World} {g : Nat} {F : Nat → Prop} {s : Srv} (h : SrvIs w g F s) (hb : Below w.heap.size w w') : SrvIs w' g F s := by
  obtain ⟨A1, c1, A2, c2, A3, c3, A4, c4, h0, h1, h2, h3, h4⟩ := h
  exact ⟨A1, c1, A2, c2, A3, c3, A4, c4, h0.below hb, ⟨h1.1, h1.2.below hb⟩, ⟨h2.1, h2.2.below hb⟩, ⟨h3.1, h3.2.below hb⟩, h4.1, h4.2.below hb⟩
theorem SrvIs.move {w w' : World} {g : Nat} {F : Nat → Prop} {s : Srv} (h : SrvIs w g F s) (hg : w'.heap[g]? = w.heap[g]?) (hF : ∀ k, F k → k < w.heap.size → w'.heap[k]? = w.heap[k]?) : SrvIs w' g F s := by
  obtain ⟨A1, c1, A2, c2, A3, c3, A4, c4, ⟨t, h0⟩, h1, h2, h3, h4⟩ := h
  exact ⟨A1, c1, A2, c2, A3, c3, A4, c4, ⟨t, hg.trans h0⟩, ⟨h1.1, h1.2.move hF⟩, ⟨h2.1, h2.2.move hF⟩, ⟨h3.1, h3.2.move hF⟩, h4.1, h4.2.move hF⟩
theorem lit_ver2 (w : World) (o : Obj) (ok : Nat → Prop) (x : Ver) (cs : List Value) (hk : verR.K (w.alloc o) ok x cs) : verR.Sl ((w.alloc o).alloc (.cells cs.toArray 129)) (fun k => ok k ∨ k = w.heap.size + 1) (.slice (some ⟨w.heap.size + 1, 0, none⟩) 1 1) [x] := by
  have h0 : Reps (verR.K (w.alloc o) ok) verR.sz [] [] := ⟨by simp, fun j p h => by simp at h⟩
  have h := (Own.lit verR 129 (w.alloc o) 0 ok (Nat.zero_le _) (h0.snoc hk (verR.len hk)) (by simp)).sl
  rw [show (w.alloc o).heap.size = w.heap.size + 1 by simp] at h
  exact h.mono fun k hk _ => hk.imp id fun e => by simpa [Value.ownBlock] using e.symm
set_option maxHeartbeats 1600000 in
set_option maxRecDepth 100000 in
theorem serverOne (A : Option Addr) (c : Nat) (l : List Ver) (id : ByteArray) (ok : Nat → Prop) (w : World) (hr : verR.Row w ok A l) (hc : l.length ≤ c) :
    Calls Try.prog 77 #[.slice A l.length c, .string id] w fun e w' => ∃ v, e = .returned (.tuple #[v, .int .i64 (getErr l id)]) ∧ verR.Sl w' (fun k => w.heap.size ≤ k) v (oneV l id) ∧ Below w.heap.size w w' := by
  have HR := Aside.mk hr
  clear hr
  obtain ⟨ge, hge⟩ : ∃ ge, getErr l id = ge := ⟨_, rfl⟩
  obtain ⟨gr, hgr⟩ : ∃ gr, getR l id = gr := ⟨_, rfl⟩
  have HGE := Aside.mk hge
  have HGR := Aside.mk hgr
  have hv : oneV l id = if ge = 0 then [⟨gr, false⟩] else [] := by rw [← hge, ← hgr]; rfl
  rw [hge, hv]
  clear hge hgr hv
  by_cases h0 : ge = 0
  · rw [if_pos h0]
    subst h0
    go_enter Try.func77, Try.ntmps77
    go_wp2_with fail
    refine (storeGet A c l id _ _ HR.out hc).mono ?_
    rw [HGE.out, HGR.out]
    rintro e w1 ⟨v2, v3, rfl, s2, s3, hb⟩
    obtain ⟨X2, d2, rfl⟩ := Sl.form s2
    obtain ⟨X3, d3, rfl⟩ := Sl.form s3
    have hal : Below w1.heap.size w1 (w1.alloc (.cells #[.string gr.id, .int .i64 gr.cats, .slice X2 gr.fields.length d2, .slice X3 gr.refs.length d3] 58)) := (Below.refl _ _).alloc (Nat.le_refl _) _
    have HK := Aside.mk (lit_ver2 w1 (.cells #[.string gr.id, .int .i64 gr.cats, .slice X2 gr.fields.length d2, .slice X3 gr.refs.length d3] 58) (fun k => w.heap.size ≤ k) ⟨gr, false⟩ _ (verK.2 ⟨_, _, rfl, s2.below hal, s3.below hal⟩))
    have HB2 := Aside.mk (below_step hb hal)
    have HSZ := Aside.mk hb.size
    clear s2 s3 hb hal
    go_wp2_with fail
    go_ret2
    exact ⟨_, rfl, HK.out.mono fun k hk _ => hk.elim (fun h => h) (fun h => by have := HSZ.out; omega), HB2.out.alloc HB2.out.size _⟩
  · have g3 : (ge != 0) = true := by simp [h0]
    rw [if_neg h0]
    clear h0
    go_enter Try.func77, Try.ntmps77
    go_wp2_with fail
    refine (storeGet A c l id _ _ HR.out hc).mono ?_
    rw [HGE.out, HGR.out]
    rintro e w1 ⟨v2, v3, rfl, s2, s3, hb⟩
    obtain ⟨X2, d2, rfl⟩ := Sl.form s2
    obtain ⟨X3, d3, rfl⟩ := Sl.form s3
    have HB1 := Aside.mk hb
    clear s2 s3 hb
    go_wp2_with fail
    go_ret2
    exact ⟨_, rfl, Sl.nil _ _ _, HB1.out.alloc HB1.out.size _⟩
/-- What rule.Sees is told: the server's roles and rules, and who asks. -/
abbrev Ks (w : World) (g n : Nat) (v1 v2 : Value) (q : Who) : Prop :=
  w.cell? { block := g, off := 0 } = some v1 ∧ w.cell? { block := g, off := 1 } = some v2 ∧ w.cell? { block := n, off := 0 } = some (.int .i64 q.role) ∧ w.cell? { block := n, off := 1 } = some (.int .i64 q.why) ∧ w.cell? { block := n, off := 2 } = some (.int .i64 q.time)
theorem Ks.step {w w' : World} {g n : Nat} {v1 v2 : Value} {q : Who} (h : Ks w g n v1 v2 q) (hb : Below w.heap.size w w') : Ks w' g n v1 v2 q :=
  ⟨cell_below hb h.1, cell_below hb h.2.1, cell_below hb h.2.2.1, cell_below hb h.2.2.2.1, cell_below hb h.2.2.2.2⟩
set_option maxHeartbeats 4000000 in
set_option maxRecDepth 100000 in
theorem serverPart (g : Nat) (F : Nat → Prop) (s : Srv) (q : Who) (w : World) (h : SrvIs w g F s) :
    Calls Try.prog 76 #[.pointer (some ⟨g, 0, none⟩), whoV q] w fun e w' => ∃ v, e = .returned (.tuple #[v, .int .i64 (mineE s q)]) ∧ verR.Sl w' (fun k => w.heap.size ≤ k) v (mineV s q) ∧ Below w.heap.size w w' := by
  obtain ⟨A1, c1, A2, c2, A3, c3, A4, c4, h0, h1, h2, h3, h4⟩ := h
  have hal : Below w.heap.size w (w.alloc (.cells (Rp.whoC q).toArray 42)) := (Below.refl _ _).alloc (Nat.le_refl _) _
  have HQ := Aside.mk (h0.below hal)
  have HU := Aside.mk (And.intro h1.2.1 (h1.2.below hal))
  have HRU := Aside.mk (h2.2.below hal)
  have HL := Aside.mk (And.intro h3.1 (h3.2.below hal))
  have HB := Aside.mk hal
  have HW := Aside.mk (Bk.made w (Rp.whoC q) 42)
  clear h0 h1 h2 h3 h4 hal
  obtain ⟨se, hse⟩ : ∃ se, seesErr s.up s.rules q = se := ⟨_, rfl⟩
  have HSE := Aside.mk hse
  have q1 := HQ.out.four
  have q2 := HW.out.three
  have HK := Aside.mk (show Ks (w.alloc (.cells (Rp.whoC q).toArray 42)) g w.heap.size (.slice A1 s.up.length c1) (.slice A2 s.rules.length c2) q from ⟨q1.2.1, q1.2.2.1, q2.2.1, q2.2.2.1, q2.2.2.2.1⟩)
  by_cases h0 : se = 0
  · have e1 : mineE s q = partErr s.l (seesV s.up s.rules q) := by rw [mineE, hse, if_neg (by simpa using h0)]
    have e2 : mineV s q = partV s.l (seesV s.up s.rules q) := by rw [mineV, e1]; rfl
    rw [e1, e2]
    subst h0
    clear e1 e2 hse
    go_enter Try.func76, Try.ntmps76
    go_wp2_with fail
    go_region_held3 (fun w' => Ks w' g w.heap.size (.slice A1 s.up.length c1) (.slice A2 s.rules.length c2) q)
      (first | exact HK.out | assumption)
      (first
       | (go_at_call 19; refine (ruleSees _ _ s.up _ _ s.rules q _ _ _ (HU.out.2.below (below_drewN (Below.refl _ _) 1)) HU.out.1 (HRU.out.below (below_drewN (Below.refl _ _) 1)) HRU.out.1).mono ?_; rw [HSE.out]; rintro e w3 ⟨rfl, hb⟩
          have hb3 := below_step (below_drewN (Below.refl _ _) 1) hb
          have hx := Ks.step HK.out hb3
          have HQ3 := Aside.mk (HQ.out.below hb3)
          have HL3 := Aside.mk (HL.out.2.below hb3)
          have HB3 := Aside.mk (below_step HB.out hb3)
          clear hb hb3))
    clear q1 q2
    have q1 := HQ3.out.four
    go_wp2_with fail
    refine (storePart _ _ s.l _ _ _ HL3.out HL.out.1).mono ?_
    rintro e w4 ⟨v, rfl, s4, hb⟩
    have HS := Aside.mk (s4.mono fun k hk _ => Nat.le_trans HB3.out.size hk)
    have HB4 := Aside.mk (below_step HB3.out hb)
    clear s4 hb
    go_wp2_with fail
    go_ret2
    exact ⟨_, rfl, HS.out, HB4.out⟩
  · have e1 : mineE s q = se := by rw [mineE, hse, if_pos h0]
    have e2 : mineV s q = [] := by rw [mineV, e1, if_neg h0]
    have g3 : (se != 0) = true := by simp [h0]
    rw [e1, e2]
    clear e1 e2 hse h0
    go_enter Try.func76, Try.ntmps76
    go_wp2_with fail
    go_region_held3 (fun w' => Ks w' g w.heap.size (.slice A1 s.up.length c1) (.slice A2 s.rules.length c2) q)
      (first | exact HK.out | assumption)
      (first
       | (go_at_call 19; refine (ruleSees _ _ s.up _ _ s.rules q _ _ _ (HU.out.2.below (below_drewN (Below.refl _ _) 1)) HU.out.1 (HRU.out.below (below_drewN (Below.refl _ _) 1)) HRU.out.1).mono ?_; rw [HSE.out]; rintro e w3 ⟨rfl, hb⟩
          have hb3 := below_step (below_drewN (Below.refl _ _) 1) hb
          have hx := Ks.step HK.out hb3
          have HB3 := Aside.mk (below_step HB.out hb3)
          clear hb hb3))
    go_wp2_with fail
    go_ret2
    exact ⟨_, rfl, Sl.nil _ _ _, HB3.out⟩
end Go.Proofs.WK
