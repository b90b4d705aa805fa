/-
  rule.May, wyref.May (P13).
-/
import Derived.Test.YtljjiicjnoljbaaSeesR
namespace Go.Proofs.WK
open Go.RowKit Rp
def mayErr (up : List Int) (l : List Rul) (q : Who) (cats : Int) : Int := if seesErr up l q = 0 then (if 0 ≤ cats ∧ cats ≤ 255 then 0 else 1) else seesErr up l q
def mayV (up : List Int) (l : List Rul) (q : Who) (cats : Int) : Bool := mayErr up l q cats == 0 && part cats (seesV up l q)
theorem seesV_lt (up : List Int) (l : List Rul) (q : Who) : seesV up l q < 256 := by
  unfold seesV
  split
  · exact sumN_lt 8 _
  · omega
set_option maxHeartbeats 1600000 in
set_option maxRecDepth 100000 in
theorem ruleMay (A : Option Addr) (c : Nat) (up : List Int) (B : Option Addr) (d : Nat) (l : List Rul) (q : Who) (cats : Int) (ok ok' : Nat → Prop) (w : World) (hr : int.Row w ok A up) (hc : up.length ≤ 9223372036854775807) (hr' : rulR.Row w ok' B l) (hc' : l.length ≤ 9223372036854775807) :
    Calls Try.prog 20 #[.slice A up.length c, .slice B l.length d, whoV q, .int .i64 cats] w fun e w' => e = .returned (.tuple #[.bool (mayV up l q cats), .int .i64 (mayErr up l q cats)]) ∧ Below w.heap.size w w' := by
  have hb1 : Below w.heap.size w (w.alloc (.cells (Rp.whoC q).toArray 42)) := (Below.refl _ _).alloc (Nat.le_refl _) _
  have HR := Aside.mk (hr.below hb1)
  have HL := Aside.mk (hr'.below hb1)
  have HB := Aside.mk hb1
  clear hr hr' hb1
  by_cases h1 : seesErr up l q = 0
  · have H1 := Aside.mk h1
    have e1 : mayErr up l q cats = if 0 ≤ cats ∧ cats ≤ 255 then 0 else 1 := if_pos h1
    clear h1
    cases hk : decide (0 ≤ cats ∧ cats ≤ 255) with
    | true =>
      have hk2 := of_decide_eq_true hk
      have e2 : mayErr up l q cats = 0 := by rw [e1, if_pos hk2]
      have e3 : mayV up l q cats = part cats (seesV up l q) := by rw [mayV, e2]; rfl
      have hv := seesV_lt up l q
      have hp := part_andNot (a := cats) (b := seesV up l q) hk2.1 hk2.2 (by omega) (by omega)
      rw [e2, e3]
      have h0 := hk2.1
      clear e1 e2 e3 hk2
      go_enter Try.func20, Try.ntmps20
      go_wp2_with fail
      refine (ruleSees _ _ up _ _ l q _ _ _ HR.out hc HL.out hc').mono ?_
      rw [H1.out]
      rintro e w2 ⟨rfl, hb⟩
      have HB2 := Aside.mk (below_step HB.out hb)
      clear hb
      go_wp2_with fail
      refine (labelCats cats _).mono ?_
      rw [hk]
      rintro e w3 ⟨rfl, rfl⟩
      go_wp2_with fail
      first
      | (go_ret2; exact ⟨rfl, HB2.out⟩)
      | (refine (partC cats _ h0 (by omega) _).mono ?_
         rintro e w4 ⟨rfl, hb⟩
         have HB3 := Aside.mk (below_step HB2.out hb)
         clear hb
         go_wp2_with fail
         go_ret2
         exact ⟨rfl, HB3.out⟩)
    | false =>
      have e2 : mayErr up l q cats = 1 := by rw [e1, if_neg (of_decide_eq_false hk)]
      have e3 : mayV up l q cats = false := by rw [mayV, e2]; rfl
      rw [e2, e3]
      clear e1 e2 e3
      go_enter Try.func20, Try.ntmps20
      go_wp2_with fail
      refine (ruleSees _ _ up _ _ l q _ _ _ HR.out hc HL.out hc').mono ?_
      rw [H1.out]
      rintro e w2 ⟨rfl, hb⟩
      have HB2 := Aside.mk (below_step HB.out hb)
      clear hb
      go_wp2_with fail
      refine (labelCats cats _).mono ?_
      rw [hk]
      rintro e w3 ⟨rfl, rfl⟩
      go_wp2_with fail
      go_ret2
      exact ⟨rfl, HB2.out⟩
  · have e1 : mayErr up l q cats = seesErr up l q := if_neg h1
    have e2 : mayV up l q cats = false := by rw [mayV, e1]; simp [h1]
    have g : (seesErr up l q != 0) = true := by simp [h1]
    have g2 : (seesErr up l q == 0) = false := by simp [h1]
    rw [e1, e2]
    clear e1 e2 h1
    go_enter Try.func20, Try.ntmps20
    go_wp2_with fail
    refine (ruleSees _ _ up _ _ l q _ _ _ HR.out hc HL.out hc').mono ?_
    rintro e w2 ⟨rfl, hb⟩
    have HB2 := Aside.mk (below_step HB.out hb)
    clear hb
    go_wp2_with fail
    go_ret2
    exact ⟨rfl, HB2.out⟩
set_option maxHeartbeats 1600000 in
set_option maxRecDepth 100000 in
theorem refMay (A : Option Addr) (c : Nat) (up : List Int) (B : Option Addr) (d : Nat) (l : List Rul) (q : Who) (cats : Int) (ok ok' : Nat → Prop) (w : World) (hr : int.Row w ok A up) (hc : up.length ≤ 9223372036854775807) (hr' : rulR.Row w ok' B l) (hc' : l.length ≤ 9223372036854775807) :
    Calls Try.prog 22 #[.slice A up.length c, .slice B l.length d, whoV q, .int .i64 cats] w fun e w' => e = .returned (.tuple #[.bool (mayV up l q cats), .int .i64 (mayErr up l q cats)]) ∧ Below w.heap.size w w' := by
  have hb1 : Below w.heap.size w (w.alloc (.cells (Rp.whoC q).toArray 42)) := (Below.refl _ _).alloc (Nat.le_refl _) _
  have HR := Aside.mk (hr.below hb1)
  have HL := Aside.mk (hr'.below hb1)
  have HB := Aside.mk hb1
  clear hr hr' hb1
  by_cases h1 : seesErr up l q = 0
  · have H1 := Aside.mk h1
    have e1 : mayErr up l q cats = if 0 ≤ cats ∧ cats ≤ 255 then 0 else 1 := if_pos h1
    clear h1
    cases hk : decide (0 ≤ cats ∧ cats ≤ 255) with
    | true =>
      have hk2 := of_decide_eq_true hk
      have e2 : mayErr up l q cats = 0 := by rw [e1, if_pos hk2]
      have e3 : mayV up l q cats = part cats (seesV up l q) := by rw [mayV, e2]; rfl
      have hv := seesV_lt up l q
      have hp := part_andNot (a := cats) (b := seesV up l q) hk2.1 hk2.2 (by omega) (by omega)
      rw [e2, e3]
      have h0 := hk2.1
      clear e1 e2 e3 hk2
      go_enter Try.func22, Try.ntmps22
      go_wp2_with fail
      refine (refSees _ _ up _ _ l q _ _ _ HR.out hc HL.out hc').mono ?_
      rw [H1.out]
      rintro e w2 ⟨rfl, hb⟩
      have HB2 := Aside.mk (below_step HB.out hb)
      clear hb
      go_wp2_with fail
      refine (refCats cats _).mono ?_
      rw [hk]
      rintro e w3 ⟨rfl, rfl⟩
      go_wp2_with fail
      first
      | (go_ret2; exact ⟨rfl, HB2.out⟩)
      | (refine (partC cats _ h0 (by omega) _).mono ?_
         rintro e w4 ⟨rfl, hb⟩
         have HB3 := Aside.mk (below_step HB2.out hb)
         clear hb
         go_wp2_with fail
         go_ret2
         exact ⟨rfl, HB3.out⟩)
    | false =>
      have e2 : mayErr up l q cats = 1 := by rw [e1, if_neg (of_decide_eq_false hk)]
      have e3 : mayV up l q cats = false := by rw [mayV, e2]; rfl
      rw [e2, e3]
      clear e1 e2 e3
      go_enter Try.func22, Try.ntmps22
      go_wp2_with fail
      refine (refSees _ _ up _ _ l q _ _ _ HR.out hc HL.out hc').mono ?_
      rw [H1.out]
      rintro e w2 ⟨rfl, hb⟩
      have HB2 := Aside.mk (below_step HB.out hb)
      clear hb
      go_wp2_with fail
      refine (refCats cats _).mono ?_
      rw [hk]
      rintro e w3 ⟨rfl, rfl⟩
      go_wp2_with fail
      go_ret2
      exact ⟨rfl, HB2.out⟩
  · have e1 : mayErr up l q cats = seesErr up l q := if_neg h1
    have e2 : mayV up l q cats = false := by rw [mayV, e1]; simp [h1]
    have g : (seesErr up l q != 0) = true := by simp [h1]
    have g2 : (seesErr up l q == 0) = false := by simp [h1]
    rw [e1, e2]
    clear e1 e2 h1
    go_enter Try.func22, Try.ntmps22
    go_wp2_with fail
    refine (refSees _ _ up _ _ l q _ _ _ HR.out hc HL.out hc').mono ?_
    rintro e w2 ⟨rfl, hb⟩
    have HB2 := Aside.mk (below_step HB.out hb)
    clear hb
    go_wp2_with fail
    go_ret2
    exact ⟨rfl, HB2.out⟩
end Go.Proofs.WK
