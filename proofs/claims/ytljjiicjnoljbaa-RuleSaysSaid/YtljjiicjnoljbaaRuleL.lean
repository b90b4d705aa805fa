/-
  The law RuleSays, walked: it returns true.
-/
import Derived.Test.YtljjiicjnoljbaaMay
import Derived.Deep.RegionHeld3
namespace Go.Proofs.WK
open Go.RowKit Rp
abbrev wC (q : Who) : List Value := [.int .i64 q.role, .int .i64 q.why, .int .i64 q.time]
abbrev rC (r : Rul) : List Value := [.int .i64 r.role, .int .i64 r.why, .int .i64 r.frm, .int .i64 r.til, .int .i64 r.cats, .bool r.allow]
abbrev Kq (w0 w : World) (n m : Nat) (q : Who) (r : Rul) : Prop :=
  w.cell? { block := n, off := 0 } = some (.int .i64 q.role) ∧ w.cell? { block := n, off := 1 } = some (.int .i64 q.why) ∧ w.cell? { block := n, off := 2 } = some (.int .i64 q.time) ∧
  w.cell? { block := m, off := 0 } = some (.int .i64 r.role) ∧ w.cell? { block := m, off := 1 } = some (.int .i64 r.why) ∧ w.cell? { block := m, off := 2 } = some (.int .i64 r.frm) ∧ w.cell? { block := m, off := 3 } = some (.int .i64 r.til) ∧
  w.cell? { block := m, off := 4 } = some (.int .i64 r.cats) ∧ w.cell? { block := m, off := 5 } = some (.bool r.allow) ∧ Aside (Bk w n (wC q) ∧ Bk w m (rC r) ∧ Below w0.heap.size w0 w)
theorem Kq.of {w0 w : World} {n m : Nat} {q : Who} {r : Rul} (h1 : Bk w n (wC q)) (h2 : Bk w m (rC r)) (h3 : Below w0.heap.size w0 w) : Kq w0 w n m q r :=
  ⟨h1.cell 0, h1.cell 1, h1.cell 2, h2.cell 0, h2.cell 1, h2.cell 2, h2.cell 3, h2.cell 4, h2.cell 5, ⟨h1, h2, h3⟩⟩
theorem Kq.al {w0 w : World} {n m : Nat} {q : Who} {r : Rul} (h : Kq w0 w n m q r) : Bk w n (wC q) ∧ Bk w m (rC r) ∧ Below w0.heap.size w0 w := h.2.2.2.2.2.2.2.2.2.out
theorem Kq.step {w0 w w' : World} {n m : Nat} {q : Who} {r : Rul} (h : Kq w0 w n m q r) (hb : Below w.heap.size w w') : Kq w0 w' n m q r :=
  .of (h.al.1.below hb) (h.al.2.1.below hb) (below_step h.al.2.2 hb)
theorem Kq.bel {w0 w : World} {n m : Nat} {q : Who} {r : Rul} (h : Kq w0 w n m q r) : Below w0.heap.size w0 w := h.al.2.2
def rr : Rul := ⟨-1, -1, 0, 9, 5, true⟩
theorem rr_sees : seesV [0] [rr] ⟨0, 0, 0⟩ = 5 ∧ seesErr [0] [rr] ⟨0, 0, 0⟩ = 0 := by decide +kernel
theorem lits (w : World) : ∃ w5, (w.alloc (.cells #[.int .i64 0] 3)).alloc (.cells #[.int .i64 (-1), .int .i64 (-1), .int .i64 0, .int .i64 9, .int .i64 5, .bool true] 44) = w5 ∧
    int.Row w5 (fun _ => True) (some ⟨w.heap.size, 0, none⟩) [0] ∧ rulR.Row w5 (fun _ => True) (some ⟨w.heap.size + 1, 0, none⟩) [rr] ∧ Below w.heap.size w w5 := by
  have l1 := (Own.lit int 3 w 0 (fun _ => False) (Nat.zero_le _) (reps_int w _ [0]) (by decide)).row.2.2
  have l2 := (Own.lit rulR 44 (w.alloc (.cells ([0].map (Value.int .i64)).toArray 3)) 0 (fun _ => False) (Nat.zero_le _) (xs := [rr]) (inner := rC rr) (Reps.snoc (ps := []) (cs := []) ⟨rfl, fun j p hp => by simp at hp⟩ (rulK.2 rfl) rfl) (by decide)).row.2.2
  refine ⟨_, rfl, (l1.mono fun _ _ _ => trivial).below ((Below.refl _ _).alloc (Nat.le_refl _) _), ?_, ((Below.refl _ _).alloc (Nat.le_refl _) _).alloc (by simp) _⟩
  have e : (w.alloc (.cells ([0].map (Value.int .i64)).toArray 3)).heap.size = w.heap.size + 1 := by simp
  rw [e] at l2
  exact l2.mono fun _ _ _ => trivial
set_option maxHeartbeats 4000000 in
set_option maxRecDepth 100000 in
theorem ruleSaysL (A : Option Addr) (c : Nat) (up : List Int) (B : Option Addr) (d : Nat) (l : List Rul) (q : Who) (r : Rul) (cats : Int) (ok ok' : Nat → Prop) (w : World) (hr : int.Row w ok A up) (hc : up.length ≤ 9223372036854775807) (hr' : rulR.Row w ok' B l) (hc' : l.length ≤ 9223372036854775807) :
    Calls Try.prog 5 #[.slice A up.length c, .slice B l.length d, whoV q, rulV r, .int .i64 cats] w fun e w' => e = .returned (.bool true) ∧ Below w.heap.size w w' := by
  have hb1 : Below w.heap.size w ((w.alloc (.cells (wC q).toArray 42)).alloc (.cells (rC r).toArray 44)) := ((Below.refl _ _).alloc (Nat.le_refl _) _).alloc (by simp) _
  have HR := Aside.mk (hr.below hb1)
  have HL := Aside.mk (hr'.below hb1)
  have HQ := Aside.mk ((Bk.made w (wC q) 42).alloc (.cells (rC r).toArray 44))
  have HP := Aside.mk (Bk.made (w.alloc (.cells (wC q).toArray 42)) (rC r) 44)
  rw [show (w.alloc (.cells (wC q).toArray 42)).heap.size = w.heap.size + 1 from by simp] at HP
  have HB := Aside.mk hb1
  clear hr hr' hb1
  go_enter Try.func5, Try.ntmps5
  go_wp2_with fail
  generalize hW : (w.alloc (.cells (wC q).toArray 42)).alloc (.cells (rC r).toArray 44) = w0 at HR HL HQ HP HB
  clear hW
  generalize w.heap.size = n2 at HQ HP
  generalize n2 + 1 = n3 at HP
  refine (ruleSees _ _ up _ _ l q _ _ _ HR.out hc HL.out hc').mono ?_
  rintro e w1 ⟨rfl, hb⟩
  have HR1 := Aside.mk (HR.out.below hb)
  have HL1 := Aside.mk (HL.out.below hb)
  have HQ1 := Aside.mk (HQ.out.below hb)
  have HP1 := Aside.mk (HP.out.below hb)
  have HB1 := Aside.mk (below_step HB.out hb)
  clear HR HL HQ HP HB hb
  have q1 := HQ1.out.three
  go_wp2_with fail
  refine (ruleMay _ _ up _ _ l q cats _ _ _ HR1.out hc HL1.out hc').mono ?_
  rintro e w2 ⟨rfl, hb⟩
  have HR2 := Aside.mk (HR1.out.below hb)
  have HL2 := Aside.mk (HL1.out.below hb)
  have HQ2 := Aside.mk (HQ1.out.below hb)
  have HP2 := Aside.mk (HP1.out.below hb)
  have HB2 := Aside.mk (below_step HB1.out hb)
  clear HR1 HL1 HQ1 HP1 HB1 hb q1
  have q1 := HQ2.out.three
  go_wp2_with fail
  refine (refSees _ _ up _ _ l q _ _ _ HR2.out hc HL2.out hc').mono ?_
  rintro e w3 ⟨rfl, hb⟩
  have HR3 := Aside.mk (HR2.out.below hb)
  have HL3 := Aside.mk (HL2.out.below hb)
  have HQ3 := Aside.mk (HQ2.out.below hb)
  have HP3 := Aside.mk (HP2.out.below hb)
  have HB3 := Aside.mk (below_step HB2.out hb)
  clear HR2 HL2 HQ2 HP2 HB2 hb q1
  have q1 := HQ3.out.three
  go_wp2_with fail
  refine (refMay _ _ up _ _ l q cats _ _ _ HR3.out hc HL3.out hc').mono ?_
  rintro e w4 ⟨rfl, hb⟩
  have HL4 := Aside.mk (HL3.out.below hb)
  have HQ4 := Aside.mk (HQ3.out.below hb)
  have HP4 := Aside.mk (HP3.out.below hb)
  have HB4 := Aside.mk (below_step HB3.out hb)
  clear HR3 HL3 HQ3 HP3 HB3 hb q1
  go_wp2_with fail
  obtain ⟨w5, hW, l1, l2, hb5⟩ := lits w4
  rw [hW]
  clear hW
  generalize w4.heap.size = n5 at l1 l2
  refine (ruleSees _ 1 [0] _ 1 [rr] ⟨0, 0, 0⟩ _ _ _ l1 (by decide) l2 (by decide)).mono ?_
  rw [rr_sees.1, rr_sees.2]
  rintro e w6 ⟨rfl, hb⟩
  have HL5 := Aside.mk ((HL4.out.below hb5).below hb)
  have HQ5 := Aside.mk ((HQ4.out.below hb5).below hb)
  have HP5 := Aside.mk ((HP4.out.below hb5).below hb)
  have HB5 := Aside.mk (below_step (below_step HB4.out hb5) hb)
  clear HL4 HQ4 HP4 HB4 hb hb5 l1 l2
  have q1 := HQ5.out.three
  have q2 := HP5.out.six
  go_wp2_with fail
  go_region_held3 (fun w' => w'.cell? { block := n2, off := 0 } = some (.int .i64 q.role) ∧ w'.cell? { block := n2, off := 1 } = some (.int .i64 q.why) ∧ w'.cell? { block := n2, off := 2 } = some (.int .i64 q.time) ∧
    w'.cell? { block := n3, off := 0 } = some (.int .i64 r.role) ∧ w'.cell? { block := n3, off := 1 } = some (.int .i64 r.why) ∧ w'.cell? { block := n3, off := 2 } = some (.int .i64 r.frm) ∧ w'.cell? { block := n3, off := 3 } = some (.int .i64 r.til) ∧
    w'.cell? { block := n3, off := 4 } = some (.int .i64 r.cats) ∧ w'.cell? { block := n3, off := 5 } = some (.bool r.allow) ∧ Aside (Bk w' n2 (wC q) ∧ Bk w' n3 (rC r) ∧ Below w6.heap.size w6 w')) (first | exact Kq.of HQ5.out HP5.out (Below.refl _ _).drew | assumption)
    (first
     | (go_at_call 23; refine (ruleOne r _).mono ?_; rintro e w' ⟨rfl, hb⟩; have hx := Kq.step (w0 := w6) (n := n2) (m := n3) (q := q) (r := r) (by assumption) hb; clear hb)
     | (go_at_call 24; refine (refRule r _).mono ?_; rintro e w' ⟨rfl, hb⟩; have hx := Kq.step (w0 := w6) (n := n2) (m := n3) (q := q) (r := r) (by assumption) hb; clear hb)
     | (go_at_call 25; refine (ruleCheck _ _ l _ _ (HL5.out.below (Kq.bel (n := n2) (m := n3) (q := q) (r := r) (by assumption))) hc').mono ?_; rintro e w' ⟨rfl, hb⟩; have hx := Kq.step (w0 := w6) (n := n2) (m := n3) (q := q) (r := r) (by assumption) hb; clear hb)
     | (go_at_call 26; refine (refRules _ _ l _ _ (HL5.out.below (Kq.bel (n := n2) (m := n3) (q := q) (r := r) (by assumption))) hc').mono ?_; rintro e w' ⟨rfl, hb⟩; have hx := Kq.step (w0 := w6) (n := n2) (m := n3) (q := q) (r := r) (by assumption) hb; clear hb)
     | (go_at_call 27; refine (ruleWho q _).mono ?_; rintro e w' ⟨rfl, hb⟩; have hx := Kq.step (w0 := w6) (n := n2) (m := n3) (q := q) (r := r) (by assumption) hb; clear hb)
     | (go_at_call 28; refine (refWho q _).mono ?_; rintro e w' ⟨rfl, hb⟩; have hx := Kq.step (w0 := w6) (n := n2) (m := n3) (q := q) (r := r) (by assumption) hb; clear hb))
  go_wp2
  go_ret
  exact ⟨rfl, below_step HB5.out hx.bel⟩
end Go.Proofs.WK
