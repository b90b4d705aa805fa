/-
  The law LogSays.
-/
import Derived.Test.YtljjiicjnoljbaaDoorLine
namespace Go.Proofs.WK
open Go.RowKit Rp
/-- An operation's block, what it leads to, and the powers' table. -/
structure OpX (o : OpV) (B1 B2 B3 : Option Addr) (e1 e2 e3 : Nat) (ok1 ok2 ok3 : Nat → Prop) (n : Nat) (W0 w : World) : Prop where
  bk : Bk w n (opC o B1 e1 B2 e2 B3 e3)
  r : rulR.Row w ok1 B1 o.rules
  f : fldR.Row w ok2 B2 o.r.fields
  g : str.Row w ok3 B3 o.r.refs
  pt : PowTab w
  bel : Below W0.heap.size W0 w
theorem OpX.step {o : OpV} {B1 B2 B3 : Option Addr} {e1 e2 e3 : Nat} {ok1 ok2 ok3 : Nat → Prop} {n : Nat} {W0 w w1 : World} (h : OpX o B1 B2 B3 e1 e2 e3 ok1 ok2 ok3 n W0 w) (hb : Below w.heap.size w w1) : OpX o B1 B2 B3 e1 e2 e3 ok1 ok2 ok3 n W0 w1 :=
  ⟨h.bk.below hb, h.r.below hb, h.f.below hb, h.g.below hb, h.pt.below hb, below_step h.bel hb⟩
theorem nums3 {o : OpV} (h : (-9223372036854775808 ≤ o.who.role ∧ o.who.role ≤ 9223372036854775807) ∧ (-9223372036854775808 ≤ o.who.why ∧ o.who.why ≤ 9223372036854775807) ∧ (-9223372036854775808 ≤ o.who.time ∧ o.who.time ≤ 9223372036854775807)) : NumsOk (whoN o) := fun n hn => by
  simp only [whoN, List.mem_cons, List.not_mem_nil, or_false] at hn
  rcases hn with rfl | rfl | rfl
  · exact h.1
  · exact h.2.1
  · exact h.2.2
theorem sum_b : sumV ⟨#[98]⟩ = 98 := by decide +kernel
set_option maxRecDepth 100000 in
set_option maxHeartbeats 4000000 in
theorem logSaysL (o : OpV) (B1 B2 B3 : Option Addr) (e1 e2 e3 : Nat) (s : ByteArray) (ok1 ok2 ok3 : Nat → Prop) (w : World) (hr : rulR.Row w ok1 B1 o.rules) (hf : fldR.Row w ok2 B2 o.r.fields) (hg : str.Row w ok3 B3 o.r.refs) (hc3 : o.r.refs.length ≤ e3) (hwf : RecWf o.r) (hwho : NumsOk (whoN o)) (ht : PowTab w) (hs : s.size < 4294967281) :
    Calls Tryd.prog 5 #[opVal o B1 e1 B2 e2 B3 e3, .string s] w fun e w' => e = .returned (.bool true) ∧ Below w.heap.size w w' := by
  have hal : Below w.heap.size w (w.alloc (.cells (opC o B1 e1 B2 e2 B3 e3).toArray 48)) := (Below.refl _ _).alloc (Nat.le_refl _) _
  have HX := Aside.mk (show OpX o B1 B2 B3 e1 e2 e3 ok1 ok2 ok3 w.heap.size w _ from ⟨Bk.made w (opC o B1 e1 B2 e2 B3 e3) 48, hr.below hal, hf.below hal, hg.below hal, ht.below hal, hal⟩)
  have HCW := Aside.mk (fun (W : World) (h : OpX o B1 B2 B3 e1 e2 e3 ok1 ok2 ok3 w.heap.size w W) => logWrite o B1 B2 B3 e1 e2 e3 ok1 ok2 ok3 W h.r h.f h.g hwf hc3 hwho h.pt)
  have HCC := Aside.mk (fun (W : World) (h : OpX o B1 B2 B3 e1 e2 e3 ok1 ok2 ok3 w.heap.size w W) => logCheck o B1 B2 B3 e1 e2 e3 ok1 ok2 ok3 W h.r h.f h.g hwf)
  have HCR := Aside.mk (fun (W : World) (h : OpX o B1 B2 B3 e1 e2 e3 ok1 ok2 ok3 w.heap.size w W) => refLogged o B1 B2 B3 e1 e2 e3 ok1 ok2 ok3 W h.r h.f h.g hwf)
  have HCL := Aside.mk (fun (W : World) (h : OpX o B1 B2 B3 e1 e2 e3 ok1 ok2 ok3 w.heap.size w W) (he : logErr o = 0) => refLine o B1 B2 B3 e1 e2 e3 ok1 ok2 ok3 W h.r h.f h.g hwho he)
  have HS := Aside.mk hs
  clear hr hf hg hal hc3 hwho ht hwf hs
  unfold opVal at *
  go_enter Tryd.func5, Tryd.ntmps5
  go_upto_region 1 with fail
  generalize hw0 : w.alloc (.cells #[.int .i64 o.kind, .int .i64 o.who.role, .int .i64 o.who.why, .int .i64 o.who.time, .slice B1 o.rules.length e1, .string o.r.id, .int .i64 o.r.cats, .slice B2 o.r.fields.length e2, .slice B3 o.r.refs.length e3, .string o.id, .string o.f.key, .string o.f.val] 48) = w0
  have hx0 : OpX o B1 B2 B3 e1 e2 e3 ok1 ok2 ok3 w.heap.size w w0 := by
    rw [← hw0]
    exact HX.out
  have HX := Aside.mk hx0
  clear hw0 hx0
  have q0 := opC_rec HX.out.bk
  go_wp2_with fail
  refine (HCW.out _ HX.out).mono ?_
  rintro e w1 ⟨rfl, hb⟩
  have HX1 := Aside.mk (HX.out.step hb)
  clear hb q0 HX
  have q1 := opC_rec HX1.out.bk
  go_wp2_with fail
  refine (HCR.out _ HX1.out).mono ?_
  rintro e w2 ⟨rfl, hb⟩
  have HX2 := Aside.mk (HX1.out.step hb)
  clear hb q1 HX1
  have q2 := opC_rec HX2.out.bk
  go_wp2_with fail
  refine (HCC.out _ HX2.out).mono ?_
  rintro e w3 ⟨rfl, hb⟩
  have HX3 := Aside.mk (HX2.out.step hb)
  clear hb q2 HX2
  have q3 := opC_rec HX3.out.bk
  go_wp2_with fail
  refine (logSum s w3 HS.out).mono ?_
  rintro e w4 ⟨rfl, rfl⟩
  go_wp2_with fail
  refine (refSum s w3 HS.out).mono ?_
  rintro e w4 ⟨rfl, rfl⟩
  go_wp2_with fail
  refine (logSum ⟨#[98]⟩ w3 (by decide)).mono ?_
  rw [sum_b]
  rintro e w4 ⟨rfl, rfl⟩
  by_cases h0 : logErr o = 0
  · have HLN := Aside.mk (HCL.out w3 HX3.out h0)
    have hE : logS o = lineS o := if_pos h0
    rw [h0, hE]
    clear h0 hE
    go_wp2_with fail
    refine HLN.out.mono ?_
    rintro e w5 ⟨rfl, hb⟩
    have HB := Aside.mk (below_step HX3.out.bel hb)
    clear hb q3
    go_wp2_with fail
    go_ret
    exact ⟨by simp, HB.out⟩
  · have hE : logS o = ⟨#[]⟩ := if_neg h0
    have g0 : (logErr o != 0) = true := by simp [h0]
    rw [hE]
    clear h0 hE
    go_wp2_with fail
    go_ret
    exact ⟨rfl, HX3.out.bel⟩
end Go.Proofs.WK
