/-
  (*Server).put (P37).
-/
import Derived.Test.YtljjiicjnoljbaaSrvC
namespace Go.Proofs.WK
open Go.RowKit Rp
/-- What is asked, as a value. -/
def opVal (o : OpV) (B1 : Option Addr) (e1 : Nat) (B2 : Option Addr) (e2 : Nat) (B3 : Option Addr) (e3 : Nat) : Value :=
  .agg #[.int .i64 o.kind, .int .i64 o.who.role, .int .i64 o.who.why, .int .i64 o.who.time, .slice B1 o.rules.length e1, .string o.r.id, .int .i64 o.r.cats, .slice B2 o.r.fields.length e2, .slice B3 o.r.refs.length e3, .string o.id, .string o.f.key, .string o.f.val]
def opC (o : OpV) (B1 : Option Addr) (e1 : Nat) (B2 : Option Addr) (e2 : Nat) (B3 : Option Addr) (e3 : Nat) : List Value :=
  [.int .i64 o.kind, .int .i64 o.who.role, .int .i64 o.who.why, .int .i64 o.who.time, .slice B1 o.rules.length e1, .string o.r.id, .int .i64 o.r.cats, .slice B2 o.r.fields.length e2, .slice B3 o.r.refs.length e3, .string o.id, .string o.f.key, .string o.f.val]
/-- The cells that put and cut read. -/
abbrev Kf (w : World) (g n : Nat) (v1 v2 v3 : Value) (q : Who) (a : ByteArray) (b : Int) (x y : Value) (id : ByteArray) : Prop :=
  w.cell? { block := g, off := 0 } = some v1 ∧ w.cell? { block := g, off := 1 } = some v2 ∧ w.cell? { block := g, off := 2 } = some v3 ∧ w.cell? { block := n, off := 1 } = some (.int .i64 q.role) ∧ w.cell? { block := n, off := 2 } = some (.int .i64 q.why) ∧ w.cell? { block := n, off := 3 } = some (.int .i64 q.time) ∧
  w.cell? { block := n, off := 5 } = some (.string a) ∧ w.cell? { block := n, off := 6 } = some (.int .i64 b) ∧ w.cell? { block := n, off := 7 } = some x ∧ w.cell? { block := n, off := 8 } = some y ∧ w.cell? { block := n, off := 9 } = some (.string id)
theorem Kf.step {w w' : World} {g n : Nat} {v1 v2 v3 : Value} {q : Who} {a : ByteArray} {b : Int} {x y : Value} {id : ByteArray} (h : Kf w g n v1 v2 v3 q a b x y id) (hb : Below w.heap.size w w') : Kf w' g n v1 v2 v3 q a b x y id := by
  obtain ⟨h1, h2, h3, h4, h5, h6, h7, h8, h9, h10, h11⟩ := h
  exact ⟨cell_below hb h1, cell_below hb h2, cell_below hb h3, cell_below hb h4, cell_below hb h5, cell_below hb h6, cell_below hb h7, cell_below hb h8, cell_below hb h9, cell_below hb h10, cell_below hb h11⟩
theorem SrvIs.more {w : World} {g : Nat} {F F' : Nat → Prop} {s : Srv} (h : SrvIs w g F s) (hF : ∀ k, F k → k < w.heap.size → F' k) : SrvIs w g F' s := by
  obtain ⟨A1, c1, A2, c2, A3, c3, A4, c4, h0, h1, h2, h3, h4⟩ := h
  exact ⟨A1, c1, A2, c2, A3, c3, A4, c4, h0, ⟨h1.1, h1.2.mono hF⟩, ⟨h2.1, h2.2.mono hF⟩, ⟨h3.1, h3.2.mono hF⟩, h4.1, h4.2.mono hF⟩
theorem below_grown {w w' : World} (h : Below w.heap.size w w') (row : Option Nat) : w.grownBy w' row := ⟨h.os, h.tape, h.output, h.size, fun k hk _ => h.block k hk⟩
/-- The server's versions are others from now on. -/
theorem SrvIs.setL {w : World} {g : Nat} {F : Nat → Prop} {s : Srv} (h : SrvIs w g F s) (hF : ∀ k, F k → k ≠ g) {v : Value} {l : List Ver} (hl : verR.Sl w F v l) : SrvIs (w.setCell ⟨g, 2, none⟩ v) g F { s with l := l } := by
  obtain ⟨A1, c1, A2, c2, A3, c3, A4, c4, h0, h1, h2, h3, h4⟩ := h
  obtain ⟨A5, c5, rfl, h5, h6⟩ := hl
  have hm : ∀ k, F k → k < w.heap.size → (w.setCell ⟨g, 2, none⟩ (.slice A5 l.length c5)).heap[k]? = w.heap[k]? := fun k hk _ => Below.heap_setCell _ _ _ k (hF k hk)
  exact ⟨A1, c1, A2, c2, A5, c5, A4, c4, h0.set 2 _, ⟨h1.1, h1.2.move hm⟩, ⟨h2.1, h2.2.move hm⟩, ⟨h5, h6.move hm⟩, h4.1, h4.2.move hm⟩
theorem grown_set (w : World) (g o : Nat) (v : Value) : w.grownBy (w.setCell ⟨g, o, none⟩ v) (some g) := by
  refine ⟨rfl, rfl, rfl, ?_, fun k hk hne => Below.heap_setCell _ _ _ k (fun e => hne (by rw [e]))⟩
  show w.heap.size ≤ (w.heap.modify g _).size
  simp
set_option maxHeartbeats 8000000 in
set_option maxRecDepth 100000 in
theorem serverPut (g : Nat) (F : Nat → Prop) (s : Srv) (o : OpV) (B1 : Option Addr) (e1 : Nat) (B2 : Option Addr) (e2 : Nat) (B3 : Option Addr) (e3 : Nat) (ok1 ok2 : Nat → Prop) (w : World) (h : SrvIs w g F s) (hF : ∀ k, F k → k ≠ g)
    (hf : fldR.Row w ok1 B2 o.r.fields) (hf2 : o.r.fields.length ≤ e2) (hg : str.Row w ok2 B3 o.r.refs) (hg2 : o.r.refs.length ≤ e3) :
    Calls Try.prog 72 #[.pointer (some ⟨g, 0, none⟩), opVal o B1 e1 B2 e2 B3 e3] w fun e w' => e = .returned (.int .i64 (putE s o)) ∧ SrvIs w' g (fun k => F k ∨ w.heap.size ≤ k) (if putE s o = 0 then { s with l := putV s.l o.r } else s) ∧ w.grownBy w' (some g) := by
  have hal : Below w.heap.size w (w.alloc (.cells (opC o B1 e1 B2 e2 B3 e3).toArray 62)) := (Below.refl _ _).alloc (Nat.le_refl _) _
  have HS := Aside.mk ((h.below hal).more (F' := fun k => F k ∨ w.heap.size ≤ k) fun k hk _ => .inl hk)
  obtain ⟨A1, c1, A2, c2, A3, c3, A4, c4, h0, h1, h2, h3, h4⟩ := h
  have hgl := h0.lt
  have HFN : Aside (∀ k, (F k ∨ w.heap.size ≤ k) → k ≠ g) := ⟨fun k hk => hk.elim (hF k) fun h => by omega⟩
  have HU := Aside.mk (And.intro h1.2.1 (h1.2.below hal))
  have HRU := Aside.mk (h2.2.below hal)
  have HL := Aside.mk (And.intro h3.1 (h3.2.below hal))
  have HF := Aside.mk (And.intro hf2 (hf.below hal))
  have HG := Aside.mk (And.intro hg2 (hg.below hal))
  have HB := Aside.mk hal
  have HBK := Aside.mk (h0.below hal)
  have hbk := Bk.made w (opC o B1 e1 B2 e2 B3 e3) 62
  have q1 := (h0.below hal).four
  have HK := Aside.mk (show Kf (w.alloc (.cells (opC o B1 e1 B2 e2 B3 e3).toArray 62)) g w.heap.size (.slice A1 s.up.length c1) (.slice A2 s.rules.length c2) (.slice A3 s.l.length c3) o.who o.r.id o.r.cats (.slice B2 o.r.fields.length e2) (.slice B3 o.r.refs.length e3) o.id from
    ⟨q1.2.1, q1.2.2.1, q1.2.2.2.1, hbk.cell 1, hbk.cell 2, hbk.cell 3, hbk.cell 5, hbk.cell 6, hbk.cell 7, hbk.cell 8, hbk.cell 9⟩)
  clear h0 h1 h2 h3 h4 hal hf hf2 hg hg2 hF hgl q1 hbk
  unfold opVal
  unfold opC at HS HU HRU HL HF HG HB HK
  by_cases p1 : recErr o.r = 0
  case neg =>
    have e : putE s o = recErr o.r := if_pos p1
    have g3 : (recErr o.r != 0) = true := by simp [p1]
    rw [e, if_neg p1]
    clear e p1
    have q := HK.out
    go_enter Try.func72, Try.ntmps72
    go_wp2_with fail
    refine (recCheck o.r _ _ _ _ _ _ _ HF.out.2 HG.out.2).mono ?_
    rintro e w1 ⟨rfl, hb⟩
    have HS1 := Aside.mk (HS.out.below hb)
    have HB1 := Aside.mk (below_step HB.out hb)
    clear hb
    go_wp2_with fail
    go_ret
    exact ⟨rfl, HS1.out, below_grown HB1.out _⟩
  case pos =>
    obtain ⟨me, hme⟩ : ∃ me, mayErr s.up s.rules o.who o.r.cats = me := ⟨_, rfl⟩
    obtain ⟨mv, hmv⟩ : ∃ mv, mayV s.up s.rules o.who o.r.cats = mv := ⟨_, rfl⟩
    have HME := Aside.mk hme
    have HMV := Aside.mk hmv
    have P1 := Aside.mk p1
    have e0 : putE s o = if me ≠ 0 then me else if mv = false then 6 else putErr s.l o.r := by rw [putE, if_neg (by simpa using p1), hme, hmv]
    clear hme hmv p1
    have q := HK.out
    by_cases p2 : me = 0
    case neg =>
      rw [e0, if_pos p2]
      have g3 : (me != 0) = true := by simp [p2]
      rw [if_neg p2]
      clear e0 p2
      go_enter Try.func72, Try.ntmps72
      go_wp2_with fail
      refine (recCheck o.r _ _ _ _ _ _ _ HF.out.2 HG.out.2).mono ?_
      rw [P1.out]
      rintro e w1 ⟨rfl, hb⟩
      have HS1 := Aside.mk (HS.out.below hb)
      have HK1 := Aside.mk (HK.out.step hb)
      have HB1 := Aside.mk (below_step HB.out hb)
      have HB10 := Aside.mk hb
      clear hb q
      have q := HK1.out
      go_wp2_with fail
      go_region_held3 (fun w' => Kf w' g w.heap.size (.slice A1 s.up.length c1) (.slice A2 s.rules.length c2) (.slice A3 s.l.length c3) o.who o.r.id o.r.cats (.slice B2 o.r.fields.length e2) (.slice B3 o.r.refs.length e3) o.id)
        (first | exact HK1.out | assumption)
        (first
         | (go_at_call 20; refine (ruleMay _ _ s.up _ _ s.rules o.who o.r.cats _ _ _ ((HU.out.2.below HB10.out).below (below_drewN (Below.refl _ _) 1)) HU.out.1 ((HRU.out.below HB10.out).below (below_drewN (Below.refl _ _) 1)) HRU.out.1).mono ?_; rw [HME.out, HMV.out]; rintro e w2 ⟨rfl, hb⟩
            have hb3 := below_step (below_drewN (Below.refl _ _) 1) hb
            have hx := Kf.step HK1.out hb3
            have HK2 := Aside.mk hx
            have HS2 := Aside.mk (HS1.out.below hb3)
            have HB2 := Aside.mk (below_step HB1.out hb3)
            have HB20 := Aside.mk (below_step HB10.out hb3)
            clear hb hb3))
      go_wp2_with fail
      go_ret
      exact ⟨rfl, HS2.out, below_grown HB2.out _⟩
    case pos =>
      subst p2
      cases mv with
      | false =>
        have e5 : putE s o = 6 := by rw [e0]; rfl
        rw [e5, if_neg (by decide)]
        clear e0 e5
        go_enter Try.func72, Try.ntmps72
        go_wp2_with fail
        refine (recCheck o.r _ _ _ _ _ _ _ HF.out.2 HG.out.2).mono ?_
        rw [P1.out]
        rintro e w1 ⟨rfl, hb⟩
        have HS1 := Aside.mk (HS.out.below hb)
        have HK1 := Aside.mk (HK.out.step hb)
        have HB1 := Aside.mk (below_step HB.out hb)
        have HB10 := Aside.mk hb
        clear hb q
        have q := HK1.out
        go_wp2_with fail
        go_region_held3 (fun w' => Kf w' g w.heap.size (.slice A1 s.up.length c1) (.slice A2 s.rules.length c2) (.slice A3 s.l.length c3) o.who o.r.id o.r.cats (.slice B2 o.r.fields.length e2) (.slice B3 o.r.refs.length e3) o.id)
          (first | exact HK1.out | assumption)
          (first
           | (go_at_call 20; refine (ruleMay _ _ s.up _ _ s.rules o.who o.r.cats _ _ _ ((HU.out.2.below HB10.out).below (below_drewN (Below.refl _ _) 1)) HU.out.1 ((HRU.out.below HB10.out).below (below_drewN (Below.refl _ _) 1)) HRU.out.1).mono ?_; rw [HME.out, HMV.out]; rintro e w2 ⟨rfl, hb⟩
              have hb3 := below_step (below_drewN (Below.refl _ _) 1) hb
              have hx := Kf.step HK1.out hb3
              have HK2 := Aside.mk hx
              have HS2 := Aside.mk (HS1.out.below hb3)
              have HB2 := Aside.mk (below_step HB1.out hb3)
              have HB20 := Aside.mk (below_step HB10.out hb3)
              clear hb hb3))
        go_wp2_with fail
        go_ret
        exact ⟨rfl, HS2.out, below_grown HB2.out _⟩
      | true =>
        have e5 : putE s o = putErr s.l o.r := by rw [e0]; rfl
        rw [e5]
        clear e0 e5
        obtain ⟨pe, hpe⟩ : ∃ pe, putErr s.l o.r = pe := ⟨_, rfl⟩
        have HPE := Aside.mk hpe
        rw [hpe]
        clear hpe
        by_cases p3 : pe = 0
        case neg =>
          rw [if_neg p3]
          have g3 : (pe == 0) = false := by simp [p3]
          clear p3
          go_enter Try.func72, Try.ntmps72
          go_wp2_with fail
          refine (recCheck o.r _ _ _ _ _ _ _ HF.out.2 HG.out.2).mono ?_
          rw [P1.out]
          rintro e w1 ⟨rfl, hb⟩
          have HS1 := Aside.mk (HS.out.below hb)
          have HK1 := Aside.mk (HK.out.step hb)
          have HB1 := Aside.mk (below_step HB.out hb)
          have HB10 := Aside.mk hb
          clear hb q
          have q := HK1.out
          go_wp2_with fail
          go_region_held3 (fun w' => Kf w' g w.heap.size (.slice A1 s.up.length c1) (.slice A2 s.rules.length c2) (.slice A3 s.l.length c3) o.who o.r.id o.r.cats (.slice B2 o.r.fields.length e2) (.slice B3 o.r.refs.length e3) o.id)
            (first | exact HK1.out | assumption)
            (first
             | (go_at_call 20; refine (ruleMay _ _ s.up _ _ s.rules o.who o.r.cats _ _ _ ((HU.out.2.below HB10.out).below (below_drewN (Below.refl _ _) 1)) HU.out.1 ((HRU.out.below HB10.out).below (below_drewN (Below.refl _ _) 1)) HRU.out.1).mono ?_; rw [HME.out, HMV.out]; rintro e w2 ⟨rfl, hb⟩
                have hb3 := below_step (below_drewN (Below.refl _ _) 1) hb
                have hx := Kf.step HK1.out hb3
                have HK2 := Aside.mk hx
                have HS2 := Aside.mk (HS1.out.below hb3)
                have HB2 := Aside.mk (below_step HB1.out hb3)
                have HB20 := Aside.mk (below_step HB10.out hb3)
                clear hb hb3))
          go_wp2_with fail
          clear q
          have q := HK2.out
          go_region_held3 (fun w' => Kf w' g w.heap.size (.slice A1 s.up.length c1) (.slice A2 s.rules.length c2) (.slice A3 s.l.length c3) o.who o.r.id o.r.cats (.slice B2 o.r.fields.length e2) (.slice B3 o.r.refs.length e3) o.id)
            (first | exact HK2.out | assumption)
            (first
             | (go_at_call 68; refine (storePut _ _ s.l o.r _ _ _ _ _ _ _ _ ((HL.out.2.below HB20.out).below (below_drewN (Below.refl _ _) 1)) HL.out.1 ((HF.out.2.below HB20.out).below (below_drewN (Below.refl _ _) 1)) HF.out.1 ((HG.out.2.below HB20.out).below (below_drewN (Below.refl _ _) 1)) HG.out.1).mono ?_; rw [HPE.out]; rintro e w3 ⟨v3, rfl, s3, hb⟩
                have hsz : w.heap.size ≤ (w2.drewN 1).heap.size := HB2.out.size
                have hb3 := below_step (below_drewN (Below.refl _ _) 1) hb
                have hx := Kf.step HK2.out hb3
                have HS3 := Aside.mk (HS2.out.below hb3)
                have HB3 := Aside.mk (below_step HB2.out hb3)
                have HBK3 := Aside.mk (HBK.out.below (below_step HB20.out hb3))
                have HV := Aside.mk (s3.mono (ok' := fun k => F k ∨ w.heap.size ≤ k) fun k hk _ => .inr (Nat.le_trans hsz hk))
                obtain ⟨X3, d3, rfl⟩ := Sl.form s3
                clear s3 hb hb3 hsz))
          clear q
          go_wp2_with fail
          go_ret
          exact ⟨rfl, HS3.out, below_grown HB3.out _⟩
        case pos =>
          rw [if_pos p3]
          subst p3
          go_enter Try.func72, Try.ntmps72
          go_wp2_with fail
          refine (recCheck o.r _ _ _ _ _ _ _ HF.out.2 HG.out.2).mono ?_
          rw [P1.out]
          rintro e w1 ⟨rfl, hb⟩
          have HS1 := Aside.mk (HS.out.below hb)
          have HK1 := Aside.mk (HK.out.step hb)
          have HB1 := Aside.mk (below_step HB.out hb)
          have HB10 := Aside.mk hb
          clear hb q
          have q := HK1.out
          go_wp2_with fail
          go_region_held3 (fun w' => Kf w' g w.heap.size (.slice A1 s.up.length c1) (.slice A2 s.rules.length c2) (.slice A3 s.l.length c3) o.who o.r.id o.r.cats (.slice B2 o.r.fields.length e2) (.slice B3 o.r.refs.length e3) o.id)
            (first | exact HK1.out | assumption)
            (first
             | (go_at_call 20; refine (ruleMay _ _ s.up _ _ s.rules o.who o.r.cats _ _ _ ((HU.out.2.below HB10.out).below (below_drewN (Below.refl _ _) 1)) HU.out.1 ((HRU.out.below HB10.out).below (below_drewN (Below.refl _ _) 1)) HRU.out.1).mono ?_; rw [HME.out, HMV.out]; rintro e w2 ⟨rfl, hb⟩
                have hb3 := below_step (below_drewN (Below.refl _ _) 1) hb
                have hx := Kf.step HK1.out hb3
                have HK2 := Aside.mk hx
                have HS2 := Aside.mk (HS1.out.below hb3)
                have HB2 := Aside.mk (below_step HB1.out hb3)
                have HB20 := Aside.mk (below_step HB10.out hb3)
                clear hb hb3))
          go_wp2_with fail
          clear q
          have q := HK2.out
          go_region_held3 (fun w' => Kf w' g w.heap.size (.slice A1 s.up.length c1) (.slice A2 s.rules.length c2) (.slice A3 s.l.length c3) o.who o.r.id o.r.cats (.slice B2 o.r.fields.length e2) (.slice B3 o.r.refs.length e3) o.id)
            (first | exact HK2.out | assumption)
            (first
             | (go_at_call 68; refine (storePut _ _ s.l o.r _ _ _ _ _ _ _ _ ((HL.out.2.below HB20.out).below (below_drewN (Below.refl _ _) 1)) HL.out.1 ((HF.out.2.below HB20.out).below (below_drewN (Below.refl _ _) 1)) HF.out.1 ((HG.out.2.below HB20.out).below (below_drewN (Below.refl _ _) 1)) HG.out.1).mono ?_; rw [HPE.out]; rintro e w3 ⟨v3, rfl, s3, hb⟩
                have hsz : w.heap.size ≤ (w2.drewN 1).heap.size := HB2.out.size
                have hb3 := below_step (below_drewN (Below.refl _ _) 1) hb
                have hx := Kf.step HK2.out hb3
                have HS3 := Aside.mk (HS2.out.below hb3)
                have HB3 := Aside.mk (below_step HB2.out hb3)
                have HBK3 := Aside.mk (HBK.out.below (below_step HB20.out hb3))
                have HV := Aside.mk (s3.mono (ok' := fun k => F k ∨ w.heap.size ≤ k) fun k hk _ => .inr (Nat.le_trans hsz hk))
                obtain ⟨X3, d3, rfl⟩ := Sl.form s3
                clear s3 hb hb3 hsz))
          clear q
          have q3 := HBK3.out.four
          go_wp2_with fail
          go_ret
          exact ⟨rfl, HS3.out.setL HFN.out HV.out, (below_grown HB3.out _).trans (grown_set _ _ _ _)⟩
end Go.Proofs.WK
