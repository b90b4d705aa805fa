/-
  Package role and what the reference says of roles (P7, P8): Check, All; wyref.Roles, Comes.
  Package rule and what the reference says of rules (P10 to P13), without Sees and May.
  rule.fits, Sees, May and the reference's Sees, May (P12, P13).
  rule.Sees, rule.May (P12, P13).
  wyref.Sees, and both Mays (P12, P13).
  rule.May, wyref.May (P13).
-/
import Derived.Deep.CutRange
import Derived.Deep.DeepCutAuto
import Derived.Test.YtljjiicjnoljbaaGreatDoorPl0
import Derived.Test.YtljjiicjnoljbaaGreatDoorDat
import Derived.Test.YtljjiicjnoljbaaGreatDoorBits
import Derived.Test.YtljjiicjnoljbaaGreatDoorDat
import Derived.BigQuiet
import Derived.Test.YtljjiicjnoljbaaGreatDoorWk0
namespace Go.Proofs.WK
open Go.RowKit Rp
def pw2 (k : Nat) : Int := 2 ^ k
theorem pw2_step (k : Nat) : pw2 (k + 1) = pw2 k + pw2 k := by unfold pw2; rw [Int.pow_succ]; omega
theorem pw2_le {k : Nat} (h : k ≤ 8) : 1 ≤ pw2 k ∧ pw2 k ≤ 256 := by
  have h1 : 2 ^ k ≤ 2 ^ 8 := Nat.pow_le_pow_right (by omega) h
  have h2 : 0 < 2 ^ k := Nat.pow_pos (by omega)
  have h3 : ((2 ^ k : Nat) : Int) = 2 ^ k := by simp
  unfold pw2
  omega

set_option maxRecDepth 100000 in
theorem roleCheck (A : Option Addr) (c : Nat) (up : List Int) (ok : Nat → Prop) (w : World) (hr : int.Row w ok A up) (hc : up.length ≤ 9223372036854775807) :
    Calls Tryz.prog 96 #[.slice A up.length c] w fun e w' => e = .returned (.int .i64 (roleErr up)) ∧ w = w' := by
  have HR := Aside.mk hr
  clear hr
  by_cases h8 : 8 < up.length
  · have H := Aside.mk (show roleErr up = 2 from if_pos h8)
    go_enter Tryz.func96, Tryz.ntmps96
    go_wp2_with fail
    go_ret
    exact ⟨by rw [H.out]; rfl, rfl⟩
  · have H := Aside.mk (show roleErr up = if upOkK up up.length = true then 0 else 1 from if_neg h8)
    have g8 : decide ((8 : Int) < (up.length : Int)) = false := by simp; omega
    go_enter Tryz.func96, Tryz.ntmps96
    go_wp2_with fail
    go_loopw [10] (fun i wr => ∃ k : Nat, k ≤ up.length ∧ i = .int .i64 k ∧ Aside (upOkK up k = true) ∧ w = wr) (fun i _ => up.length - (intOf i).toNat)
    case atStart => exact ⟨0, Nat.zero_le _, rfl, ⟨rfl⟩, rfl⟩
    case round =>
      obtain ⟨k, hk, rfl, HK, rfl⟩ := hrel
      by_cases hlt : k < up.length
      · obtain ⟨ad, rfl, _, h1⟩ := int_at HR.out hlt
        have hS := Aside.mk (upOkK_step up k)
        obtain ⟨p1, p2⟩ := pw2_le (k := k) (by omega)
        have hO : upOne up k = (decide (0 ≤ up[k]) && decide (up[k] < pw2 k)) := by rw [upOne, upAt_get hlt]; rfl
        have e2 : (2 : Int) ^ k = pw2 k := rfl
        by_cases hn : up[k] < 0
        · have HF := Aside.mk (show upOkK up up.length = false from Bool.eq_false_iff.2 fun h => by
            have := upOkK_le h hlt
            rw [hO] at this
            simp at this
            omega)
          clear hO
          go_wp2_with fail
          go_ret
          exact ⟨by rw [H.out, HF.out]; rfl, rfl⟩
        · have n0 : decide (up[k] < 0) = false := by simp; omega
          by_cases hp : pw2 k ≤ up[k]
          · have HF := Aside.mk (show upOkK up up.length = false from Bool.eq_false_iff.2 fun h => by
              have := upOkK_le h hlt
              rw [hO] at this
              simp at this
              omega)
            clear hO
            go_wp2_with fail
            go_ret
            exact ⟨by rw [H.out, HF.out]; rfl, rfl⟩
          · have HT := Aside.mk (show upOkK up (k + 1) = true by rw [hS.out, HK.out, hO]; simp; omega)
            clear hO
            go_wp2_with fail
            refine ⟨⟨k + 1, by omega, by go_num, HT, trivial⟩, by simp [intOf]; omega⟩
      · obtain rfl : k = up.length := by omega
        go_wp2_with fail
        go_ret
        exact ⟨by rw [H.out, HK.out]; rfl, rfl⟩
set_option maxRecDepth 100000 in
theorem roleAll (A : Option Addr) (c : Nat) (up : List Int) (i : Int) (ok : Nat → Prop) (w : World) (hr : int.Row w ok A up) (hc : up.length ≤ 9223372036854775807) :
    Calls Tryz.prog 135 #[.slice A up.length c, .int .i64 i] w fun e w' => e = .returned (.tuple #[.int .i64 (allV up i), .int .i64 (allErr up i)]) ∧ w = w' := by
  have HR := Aside.mk hr
  by_cases ho : roleErr up = 0
  · obtain ⟨h8, hu⟩ := roleErr_ok ho
    have HU : Aside (UpOk up) := ⟨hu⟩
    clear hu
    by_cases hi : i < 0 ∨ up.length ≤ i
    · have e1 : allErr up i = 4 := by rw [allErr, if_pos ho, if_pos hi]
      have e2 : allV up i = 0 := by rw [allV, e1]; rfl
      rw [e1, e2]
      clear e1 e2
      by_cases hi0 : i < 0
      · clear hi
        go_enter Tryz.func135, Tryz.ntmps135
        go_wp2_with fail
        refine (roleCheck _ c up ok _ HR.out hc).mono ?_
        rw [ho]
        rintro e w' ⟨rfl, rfl⟩
        go_wp2_with fail
        go_ret2
        exact ⟨rfl, rfl⟩
      · have hi1 : (up.length : Int) ≤ i := by omega
        clear hi
        go_enter Tryz.func135, Tryz.ntmps135
        go_wp2_with fail
        refine (roleCheck _ c up ok _ HR.out hc).mono ?_
        rw [ho]
        rintro e w' ⟨rfl, rfl⟩
        go_wp2_with fail
        go_ret2
        exact ⟨rfl, rfl⟩
    · obtain ⟨n, rfl⟩ : ∃ n : Nat, i = (n : Int) := ⟨i.toNat, by omega⟩
      have hn : n < up.length := by omega
      have e1 : allErr up n = 0 := by rw [allErr, if_pos ho, if_neg hi]
      have e2 : allV up n = allR up n := by rw [allV, if_pos e1]; rfl
      rw [e1, e2]
      have HO := Aside.mk ho
      clear e1 e2 hi hr ho
      obtain ⟨p1, p2⟩ := pw2_le (k := n) (by omega)
      have e2 : (2 : Int) ^ n = pw2 n := rfl
      have g0 : decide ((n : Int) < 0) = false := by simp
      have g1 : decide ((up.length : Int) ≤ n) = false := by simp; omega
      go_enter Tryz.func135, Tryz.ntmps135
      go_wp2_with fail
      refine (roleCheck _ c up ok _ HR.out hc).mono ?_
      rw [HO.out]
      rintro e w' ⟨rfl, rfl⟩
      go_wp2_with fail
      go_loopw [7, 8] (fun o k wr => ∃ m x : Nat, m ≤ n + 1 ∧ k = .int .i64 ((m : Int) - 1) ∧ o = .int .i64 x ∧ Aside (AllAt up n m x) ∧ w = wr) (fun _ k _ => (intOf k + 1).toNat)
      case atStart => exact ⟨n + 1, 2 ^ n, Nat.le_refl _, by go_num, by simp [pw2], ⟨.start _ _⟩, rfl⟩
      case round =>
        clear p1 p2 e2
        obtain ⟨m, x, hm, rfl, rfl, HA, rfl⟩ := hrel
        have hx := HA.out.lt HU.out (by omega)
        cases m with
        | zero =>
          have HX := Aside.mk (HA.out.eq HU.out (by omega))
          rw [show (((0 : Nat) : Int) - 1) = -1 from rfl]
          go_wp2_with fail
          go_ret2
          exact ⟨by rw [HX.out]; rfl, rfl⟩
        | succ k =>
          rw [show (((k + 1 : Nat) : Int) - 1) = (k : Int) by omega]
          have hk : k < up.length := by omega
          obtain ⟨ad, rfl, _, h1⟩ := int_at HR.out hk
          have ha := and_one (k := k) hx
          obtain ⟨u0, u1⟩ := HU.out k hk
          rw [upAt_get hk] at u0 u1
          obtain ⟨u, hu⟩ := Int.eq_ofNat_of_zero_le u0
          rw [hu] at h1 u1
          have HV := Aside.mk (show upAt up k = (u : Int) by rw [upAt_get hk, hu])
          have hp := (pw2_le (k := k) (by omega)).2
          have hu2 : (u : Int) < 256 := Int.lt_of_lt_of_le u1 hp
          have hor := or_n x u (by omega) (by omega)
          clear hu u0 u1 hp hu2
          cases hb : x.testBit k with
          | true =>
            rw [hb] at ha
            go_wp2_with fail
            exact ⟨⟨k, x ||| u, by omega, rfl, rfl, ⟨HA.out.yes HU.out hb HV.out⟩, trivial⟩, by simp [intOf]⟩
          | false =>
            rw [hb] at ha
            go_wp2_with fail
            exact ⟨⟨k, x, by omega, rfl, rfl, ⟨HA.out.no hb⟩, trivial⟩, by simp [intOf]⟩
  · have e1 : allErr up i = roleErr up := by rw [allErr, if_neg ho]
    have e2 : allV up i = 0 := by rw [allV, e1, if_neg ho]
    have hb : (roleErr up != 0) = true := by simp [ho]
    rw [e1, e2]
    clear e1 e2 ho
    go_enter Tryz.func135, Tryz.ntmps135
    go_wp2_with fail
    refine (roleCheck _ c up ok _ HR.out hc).mono ?_
    rintro e w' ⟨rfl, rfl⟩
    go_wp2_with fail
    go_ret2
    exact ⟨rfl, rfl⟩
theorem withinR (x a b : Int) (w : World) : Calls Tryz.prog 90 #[.int .i64 x, .int .i64 a, .int .i64 b] w fun e w' => e = .returned (.bool (decide (a ≤ x ∧ x ≤ b))) ∧ w = w' := by
  by_cases h0 : a ≤ x <;> by_cases h1 : x ≤ b <;>
  · go_enter Tryz.func90, Tryz.ntmps90
    go_wp2
    go_ret
    exact ⟨by simp; omega, rfl⟩
set_option maxRecDepth 100000 in
theorem refRoles (A : Option Addr) (c : Nat) (up : List Int) (ok : Nat → Prop) (w : World) (hr : int.Row w ok A up) (hc : up.length ≤ 9223372036854775807) :
    Calls Tryz.prog 35 #[.slice A up.length c] w fun e w' => e = .returned (.int .i64 (roleErr up)) ∧ w = w' := by
  have HR := Aside.mk hr
  clear hr
  by_cases h8 : 8 < up.length
  · have H := Aside.mk (show roleErr up = 2 from if_pos h8)
    go_enter Tryz.func35, Tryz.ntmps35
    go_wp2_with fail
    go_ret
    exact ⟨by rw [H.out]; rfl, rfl⟩
  · have H := Aside.mk (show roleErr up = if upOkK up up.length = true then 0 else 1 from if_neg h8)
    have g8 : decide ((8 : Int) < (up.length : Int)) = false := by simp; omega
    go_enter Tryz.func35, Tryz.ntmps35
    go_wp2_with fail
    go_loopw [3, 11] (fun p i wr => ∃ k : Nat, k ≤ up.length ∧ i = .int .i64 k ∧ p = .int .i64 (pw2 k) ∧ Aside (upOkK up k = true) ∧ w = wr) (fun _ i _ => up.length - (intOf i).toNat)
    case atStart => exact ⟨0, Nat.zero_le _, rfl, rfl, ⟨rfl⟩, rfl⟩
    case round =>
      obtain ⟨k, hk, rfl, rfl, HK, rfl⟩ := hrel
      by_cases hlt : k < up.length
      · obtain ⟨ad, rfl, _, h1⟩ := int_at HR.out hlt
        have hS := Aside.mk (upOkK_step up k)
        have hP := Aside.mk (pw2_step k)
        obtain ⟨p1, p2⟩ := pw2_le (k := k) (by omega)
        have hO : upOne up k = decide (0 ≤ up[k] ∧ up[k] ≤ pw2 k - 1) := by
          rw [upOne, upAt_get hlt, Bool.eq_iff_iff]
          unfold pw2
          simp
          omega
        cases hd : decide (0 ≤ up[k] ∧ up[k] ≤ pw2 k - 1) with
        | false =>
          have HF := Aside.mk (show upOkK up up.length = false from Bool.eq_false_iff.2 fun h => by
            have := upOkK_le h hlt
            rw [hO, hd] at this
            cases this)
          clear hO
          go_wp2_with fail
          refine (withinR _ _ _ _).mono ?_
          rw [hd]
          rintro e w' ⟨rfl, rfl⟩
          go_wp2_with fail
          go_ret
          exact ⟨by rw [H.out, HF.out]; rfl, rfl⟩
        | true =>
          have HT := Aside.mk (show upOkK up (k + 1) = true by rw [hS.out, HK.out, hO, hd]; rfl)
          clear hO
          go_wp2_with fail
          refine (withinR _ _ _ _).mono ?_
          rw [hd]
          rintro e w' ⟨rfl, rfl⟩
          go_wp2_with fail
          refine ⟨⟨k + 1, by omega, by go_num, by rw [hP.out], HT, trivial⟩, by simp [intOf]; omega⟩
      · obtain rfl : k = up.length := by omega
        go_wp2_with fail
        go_ret
        exact ⟨by rw [H.out, HK.out]; rfl, rfl⟩
set_option maxRecDepth 100000 in
theorem refComes (A : Option Addr) (c : Nat) (up : List Int) (ok : Nat → Prop) (k : Int) (h8 : up.length ≤ 8) (hu : UpOk up) : ∀ (f i : Nat) (w : World), int.Row w ok A up → i < f → i < up.length →
    Calls Tryz.prog 176 #[.slice A up.length c, .int .i64 i, .int .i64 k] w fun e w' => e = .returned (.bool (comesN up k f i)) ∧ w = w'
  | 0, _, _, _, hf, _ => absurd hf (Nat.not_lt_zero _)
  | f + 1, i, w, hr, hf, hi => by
    have HR := Aside.mk hr
    obtain ⟨u0, u1⟩ := hu i hi
    rw [upAt_get hi] at u0 u1
    have HU := Aside.mk hu
    have IH := Aside.mk (refComes A c up ok k h8 hu f)
    clear hr hu u1
    by_cases he : (i : Int) = k
    · have HE := Aside.mk (show comesN up k (f + 1) i = true by unfold comesN; rw [decide_eq_true he]; rfl)
      subst he
      go_enter Tryz.func176, Tryz.ntmps176
      go_wp2_with fail
      go_ret
      exact ⟨by rw [HE.out]; rfl, rfl⟩
    · have HE := Aside.mk (show comesN up k (f + 1) i = comesK up k f i i by unfold comesN; rw [decide_eq_false he]; rfl)
      have g : ((i : Int) == k) = false := by simp [he]
      clear he
      go_enter Tryz.func176, Tryz.ntmps176
      go_wp2_with fail
      go_loopw [12] (fun v wr => ∃ n : Nat, n ≤ i ∧ v = .int .i64 n ∧ Aside (comesK up k f i n = false) ∧ w = wr) (fun v _ => i - (intOf v).toNat)
      case atStart => exact ⟨0, Nat.zero_le _, rfl, ⟨rfl⟩, rfl⟩
      case round =>
        obtain ⟨n, hn, rfl, HK, rfl⟩ := hrel
        by_cases hlt : n < i
        · obtain ⟨ad, rfl, _, h1⟩ := int_at HR.out hi
          have hS := Aside.mk (comesK_step up k f i n)
          have hb := bit_t u0 n
          rw [upAt_get hi] at hS
          cases hx : bit up[i] n with
          | false =>
            rw [hx] at hb hS
            have HT := Aside.mk (show comesK up k f i (n + 1) = false by rw [hS.out, HK.out]; rfl)
            go_wp2_with fail
            refine ⟨⟨n + 1, by omega, by go_num, HT, trivial⟩, by simp [intOf]; omega⟩
          | true =>
            rw [hx] at hb hS
            cases hc : comesN up k f n with
            | false =>
              have HT := Aside.mk (show comesK up k f i (n + 1) = false by rw [hS.out, HK.out, hc]; rfl)
              go_wp2_with fail
              refine (IH.out n _ HR.out (by omega) (by omega)).mono ?_
              rw [hc]
              rintro e w' ⟨rfl, rfl⟩
              go_wp2_with fail
              refine ⟨⟨n + 1, by omega, by go_num, HT, trivial⟩, by simp [intOf]; omega⟩
            | true =>
              have HT := Aside.mk (show comesK up k f i i = true from comesK_hit hlt (by rw [upAt_get hi]; exact hx) hc)
              go_wp2_with fail
              refine (IH.out n _ HR.out (by omega) (by omega)).mono ?_
              rw [hc]
              rintro e w' ⟨rfl, rfl⟩
              go_wp2_with fail
              go_ret
              exact ⟨by rw [HE.out, HT.out]; rfl, rfl⟩
        · obtain rfl : n = i := by omega
          go_wp2_with fail
          go_ret
          exact ⟨by rw [HE.out, HK.out]; rfl, rfl⟩
end Go.Proofs.WK
namespace Go.Proofs.WK
open Go.RowKit Rp
def rulErr (r : Rul) : Int := if -1 ≤ r.role ∧ r.role ≤ 7 ∧ -1 ≤ r.why ∧ r.why ≤ 3 ∧ 0 ≤ r.frm ∧ r.til ≤ 1000 ∧ 0 ≤ r.cats ∧ r.cats ≤ 255 then (if r.frm < r.til then 0 else 3) else 1
abbrev rulV (r : Rul) : Value := .agg #[.int .i64 r.role, .int .i64 r.why, .int .i64 r.frm, .int .i64 r.til, .int .i64 r.cats, .bool r.allow]
abbrev whoV (q : Who) : Value := .agg #[.int .i64 q.role, .int .i64 q.why, .int .i64 q.time]
theorem rul_bad {r : Rul} (h : ¬ (-1 ≤ r.role ∧ r.role ≤ 7 ∧ -1 ≤ r.why ∧ r.why ≤ 3 ∧ 0 ≤ r.frm ∧ r.til ≤ 1000 ∧ 0 ≤ r.cats ∧ r.cats ≤ 255)) : rulErr r = 1 := if_neg h
theorem rul_form {r : Rul} (h : -1 ≤ r.role ∧ r.role ≤ 7 ∧ -1 ≤ r.why ∧ r.why ≤ 3 ∧ 0 ≤ r.frm ∧ r.til ≤ 1000 ∧ 0 ≤ r.cats ∧ r.cats ≤ 255) (h2 : ¬ r.frm < r.til) : rulErr r = 3 := by rw [rulErr, if_pos h, if_neg h2]
theorem rul_ok {r : Rul} (h : -1 ≤ r.role ∧ r.role ≤ 7 ∧ -1 ≤ r.why ∧ r.why ≤ 3 ∧ 0 ≤ r.frm ∧ r.til ≤ 1000 ∧ 0 ≤ r.cats ∧ r.cats ≤ 255) (h2 : r.frm < r.til) : rulErr r = 0 := by rw [rulErr, if_pos h, if_pos h2]
theorem rul_of_ok {r : Rul} (h : rulErr r = 0) : -1 ≤ r.role ∧ r.role ≤ 7 ∧ -1 ≤ r.why ∧ r.why ≤ 3 ∧ 0 ≤ r.frm ∧ r.til ≤ 1000 ∧ 0 ≤ r.cats ∧ r.cats ≤ 255 ∧ r.frm < r.til := by
  unfold rulErr at h
  split at h
  · split at h
    · rename_i h1 h2
      exact ⟨h1.1, h1.2.1, h1.2.2.1, h1.2.2.2.1, h1.2.2.2.2.1, h1.2.2.2.2.2.1, h1.2.2.2.2.2.2.1, h1.2.2.2.2.2.2.2, h2⟩
    · cases h
  · cases h
set_option maxHeartbeats 1600000 in
set_option maxRecDepth 100000 in
theorem ruleOne (r : Rul) (w : World) : Calls Tryz.prog 131 #[rulV r] w fun e w' => e = .returned (.int .i64 (rulErr r)) ∧ Below w.heap.size w w' := by
  rcases (by omega : r.role < -1 ∨ (-1 ≤ r.role ∧ 8 ≤ r.role) ∨ ((-1 ≤ r.role ∧ r.role < 8) ∧ r.why < -1) ∨ ((-1 ≤ r.role ∧ r.role < 8) ∧ -1 ≤ r.why ∧ 4 ≤ r.why) ∨ ((-1 ≤ r.role ∧ r.role < 8) ∧ (-1 ≤ r.why ∧ r.why < 4) ∧ r.frm < 0) ∨ ((-1 ≤ r.role ∧ r.role < 8) ∧ (-1 ≤ r.why ∧ r.why < 4) ∧ 0 ≤ r.frm ∧ 1000 < r.til) ∨ ((-1 ≤ r.role ∧ r.role < 8) ∧ (-1 ≤ r.why ∧ r.why < 4) ∧ 0 ≤ r.frm ∧ r.til ≤ 1000)) with h | h | h | h | h | h | h
  case inr.inr.inr.inr.inr.inr =>
    cases hc : decide (0 ≤ r.cats ∧ r.cats ≤ 255)
    · have H := Aside.mk (rul_bad (r := r) (by have := of_decide_eq_false hc; omega))
      go_enter Tryz.func131, Tryz.ntmps131
      go_wp2_with (go_at_call 141; refine (labelCats _ _).mono ?_; rw [hc]; rintro e w' ⟨rfl, rfl⟩)
      go_ret
      exact ⟨by rw [H.out]; rfl, (Below.refl _ _).alloc (Nat.le_refl _) _⟩
    · have hc2 := of_decide_eq_true hc
      by_cases h2 : r.frm < r.til
      · have H := Aside.mk (rul_ok (r := r) (by omega) h2)
        go_enter Tryz.func131, Tryz.ntmps131
        go_wp2_with (go_at_call 141; refine (labelCats _ _).mono ?_; rw [hc]; rintro e w' ⟨rfl, rfl⟩)
        go_ret
        exact ⟨by rw [H.out]; rfl, (Below.refl _ _).alloc (Nat.le_refl _) _⟩
      · have H := Aside.mk (rul_form (r := r) (by omega) h2)
        go_enter Tryz.func131, Tryz.ntmps131
        go_wp2_with (go_at_call 141; refine (labelCats _ _).mono ?_; rw [hc]; rintro e w' ⟨rfl, rfl⟩)
        go_ret
        exact ⟨by rw [H.out]; rfl, (Below.refl _ _).alloc (Nat.le_refl _) _⟩
  all_goals
    have H := Aside.mk (rul_bad (r := r) (by omega))
    go_enter Tryz.func131, Tryz.ntmps131
    go_wp2_with fail
    go_ret
    exact ⟨by rw [H.out]; rfl, (Below.refl _ _).alloc (Nat.le_refl _) _⟩
theorem rul_iff {b1 b2 b5 : Bool} {r : Rul} (h1 : decide (-1 ≤ r.role ∧ r.role ≤ 7) = b1) (h2 : decide (-1 ≤ r.why ∧ r.why ≤ 3) = b2) (h5 : decide (0 ≤ r.cats ∧ r.cats ≤ 255) = b5) :
    rulErr r = if (b1 && b2 && decide (0 ≤ r.frm) && decide (r.til ≤ 1000) && b5) = true then (if r.frm < r.til then 0 else 3) else 1 := by
  subst h1 h2 h5
  unfold rulErr
  simp only [Bool.and_eq_true, decide_eq_true_eq, and_assoc]
set_option maxHeartbeats 1600000 in
set_option maxRecDepth 100000 in
theorem refRule (r : Rul) (w : World) : Calls Tryz.prog 172 #[rulV r] w fun e w' => e = .returned (.int .i64 (rulErr r)) ∧ Below w.heap.size w w' := by
  cases h1 : decide (-1 ≤ r.role ∧ r.role ≤ 7)
  · have H := Aside.mk (show rulErr r = 1 by rw [rul_iff h1 rfl rfl]; simp)
    go_enter Tryz.func172, Tryz.ntmps172
    go_wp2_with (go_at_call 90; refine (within _ _ _ _).mono ?_; rw [h1]; rintro e w' ⟨rfl, rfl⟩)
    go_ret
    exact ⟨by rw [H.out]; rfl, (Below.refl _ _).alloc (Nat.le_refl _) _⟩
  · cases h2 : decide (-1 ≤ r.why ∧ r.why ≤ 3)
    · have H := Aside.mk (show rulErr r = 1 by rw [rul_iff h1 h2 rfl]; simp)
      go_enter Tryz.func172, Tryz.ntmps172
      go_wp2_with (go_at_call 90; refine (within _ _ _ _).mono ?_; (first | rw [h1] | rw [h2]); rintro e w' ⟨rfl, rfl⟩)
      go_ret
      exact ⟨by rw [H.out]; rfl, (Below.refl _ _).alloc (Nat.le_refl _) _⟩
    · rcases (by omega : r.frm < 0 ∨ (0 ≤ r.frm ∧ 1000 < r.til) ∨ (0 ≤ r.frm ∧ r.til ≤ 1000)) with h | h | h
      case inr.inr =>
        cases h5 : decide (0 ≤ r.cats ∧ r.cats ≤ 255)
        · have H := Aside.mk (show rulErr r = 1 by rw [rul_iff h1 h2 h5]; simp)
          go_enter Tryz.func172, Tryz.ntmps172
          go_wp2_with (first | (go_at_call 90; refine (within _ _ _ _).mono ?_; (first | rw [h1] | rw [h2]); rintro e w' ⟨rfl, rfl⟩) | (go_at_call 157; refine (refCats _ _).mono ?_; rw [h5]; rintro e w' ⟨rfl, rfl⟩))
          go_ret
          exact ⟨by rw [H.out]; rfl, (Below.refl _ _).alloc (Nat.le_refl _) _⟩
        · have e : rulErr r = if r.frm < r.til then 0 else 3 := by rw [rul_iff h1 h2 h5]; simp [h]
          by_cases hf : r.frm < r.til
          · have H := Aside.mk (e.trans (if_pos hf))
            clear e
            go_enter Tryz.func172, Tryz.ntmps172
            go_wp2_with (first | (go_at_call 90; refine (within _ _ _ _).mono ?_; (first | rw [h1] | rw [h2]); rintro e w' ⟨rfl, rfl⟩) | (go_at_call 157; refine (refCats _ _).mono ?_; rw [h5]; rintro e w' ⟨rfl, rfl⟩))
            go_ret
            exact ⟨by rw [H.out]; rfl, (Below.refl _ _).alloc (Nat.le_refl _) _⟩
          · have H := Aside.mk (e.trans (if_neg hf))
            clear e
            go_enter Tryz.func172, Tryz.ntmps172
            go_wp2_with (first | (go_at_call 90; refine (within _ _ _ _).mono ?_; (first | rw [h1] | rw [h2]); rintro e w' ⟨rfl, rfl⟩) | (go_at_call 157; refine (refCats _ _).mono ?_; rw [h5]; rintro e w' ⟨rfl, rfl⟩))
            go_ret
            exact ⟨by rw [H.out]; rfl, (Below.refl _ _).alloc (Nat.le_refl _) _⟩
      all_goals
        have H := Aside.mk (show rulErr r = 1 by rw [rul_iff h1 h2 rfl]; simp; omega)
        go_enter Tryz.func172, Tryz.ntmps172
        go_wp2_with (go_at_call 90; refine (within _ _ _ _).mono ?_; (first | rw [h1] | rw [h2]); rintro e w' ⟨rfl, rfl⟩)
        go_ret
        exact ⟨by rw [H.out]; rfl, (Below.refl _ _).alloc (Nat.le_refl _) _⟩
def rulesErr (l : List Rul) : Int := if 20 < l.length then 2 else firstErr rulErr l
set_option maxHeartbeats 1600000 in
set_option maxRecDepth 100000 in
theorem ruleCheck (A : Option Addr) (c : Nat) (l : List Rul) (ok : Nat → Prop) (w : World) (hr : rulR.Row w ok A l) (hc : l.length ≤ 9223372036854775807) :
    Calls Tryz.prog 49 #[.slice A l.length c] w fun e w' => e = .returned (.int .i64 (rulesErr l)) ∧ Below w.heap.size w w' := by
  have HR := Aside.mk hr
  clear hr
  by_cases h20 : 20 < l.length
  · have H := Aside.mk (show rulesErr l = 2 from if_pos h20)
    go_enter Tryz.func49, Tryz.ntmps49
    go_wp2_with fail
    go_ret
    exact ⟨by rw [H.out]; rfl, Below.refl _ _⟩
  · have H := Aside.mk (show rulesErr l = firstErr rulErr l from if_neg h20)
    have g20 : decide ((20 : Int) < (l.length : Int)) = false := by simp; omega
    go_enter Tryz.func49, Tryz.ntmps49
    go_wp2_with fail
    go_loopw [11] (fun i wr => ∃ k : Nat, k ≤ l.length ∧ i = .int .i64 k ∧ Aside (firstErr rulErr (l.take k) = 0) ∧ Aside (Below w.heap.size w wr)) (fun i _ => l.length - (intOf i).toNat)
    case atStart => exact ⟨0, Nat.zero_le _, rfl, ⟨rfl⟩, ⟨Below.refl _ _⟩⟩
    case round =>
      obtain ⟨k, hk, rfl, HK, HB⟩ := hrel
      by_cases hlt : k < l.length
      · obtain ⟨ad, rfl, hlt2, x0, x1, x2, x3, x4, x5⟩ := rul_at (HR.out.below HB.out) hlt
        have hS := Aside.mk (firstErr_step (f := rulErr) hlt HK.out)
        by_cases he : rulErr l[k] = 0
        · have HT := Aside.mk (hS.out.trans he)
          go_wp2_with fail
          refine (ruleOne l[k] _).mono ?_
          rw [he]
          rintro e w2 ⟨rfl, hb⟩
          have HB2 := Aside.mk (below_step (HB.out.alloc HB.out.size _) hb)
          clear hb
          go_wp2_with fail
          refine ⟨⟨k + 1, by omega, by go_num, HT, HB2⟩, by simp [intOf]; omega⟩
        · have HT := Aside.mk (firstErr_hit (f := rulErr) hlt HK.out he)
          have hb0 : (rulErr l[k] != 0) = true := by simp [he]
          clear he
          go_wp2_with fail
          refine (ruleOne l[k] _).mono ?_
          rintro e w2 ⟨rfl, hb⟩
          have HB2 := Aside.mk (below_step (HB.out.alloc HB.out.size _) hb)
          clear hb
          go_wp2_with fail
          go_ret
          exact ⟨by rw [H.out, HT.out]; rfl, HB2.out⟩
      · obtain rfl : k = l.length := by omega
        have HT := Aside.mk (show firstErr rulErr l = 0 by have := HK.out; rwa [List.take_length] at this)
        go_wp2_with fail
        go_ret
        exact ⟨by rw [H.out, HT.out]; rfl, HB.out⟩
set_option maxHeartbeats 1600000 in
set_option maxRecDepth 100000 in
theorem refRules (A : Option Addr) (c : Nat) (l : List Rul) (ok : Nat → Prop) (w : World) (hr : rulR.Row w ok A l) (hc : l.length ≤ 9223372036854775807) :
    Calls Tryz.prog 100 #[.slice A l.length c] w fun e w' => e = .returned (.int .i64 (rulesErr l)) ∧ Below w.heap.size w w' := by
  have HR := Aside.mk hr
  clear hr
  by_cases h20 : 20 < l.length
  · have H := Aside.mk (show rulesErr l = 2 from if_pos h20)
    go_enter Tryz.func100, Tryz.ntmps100
    go_wp2_with fail
    go_ret
    exact ⟨by rw [H.out]; rfl, Below.refl _ _⟩
  · have H := Aside.mk (show rulesErr l = firstErr rulErr l from if_neg h20)
    have g20 : decide ((20 : Int) < (l.length : Int)) = false := by simp; omega
    go_enter Tryz.func100, Tryz.ntmps100
    go_wp2_with fail
    go_loopw [11] (fun i wr => ∃ k : Nat, k ≤ l.length ∧ i = .int .i64 k ∧ Aside (firstErr rulErr (l.take k) = 0) ∧ Aside (Below w.heap.size w wr)) (fun i _ => l.length - (intOf i).toNat)
    case atStart => exact ⟨0, Nat.zero_le _, rfl, ⟨rfl⟩, ⟨Below.refl _ _⟩⟩
    case round =>
      obtain ⟨k, hk, rfl, HK, HB⟩ := hrel
      by_cases hlt : k < l.length
      · obtain ⟨ad, rfl, hlt2, x0, x1, x2, x3, x4, x5⟩ := rul_at (HR.out.below HB.out) hlt
        have hS := Aside.mk (firstErr_step (f := rulErr) hlt HK.out)
        by_cases he : rulErr l[k] = 0
        · have HT := Aside.mk (hS.out.trans he)
          go_wp2_with fail
          refine (refRule l[k] _).mono ?_
          rw [he]
          rintro e w2 ⟨rfl, hb⟩
          have HB2 := Aside.mk (below_step (HB.out.alloc HB.out.size _) hb)
          clear hb
          go_wp2_with fail
          refine ⟨⟨k + 1, by omega, by go_num, HT, HB2⟩, by simp [intOf]; omega⟩
        · have HT := Aside.mk (firstErr_hit (f := rulErr) hlt HK.out he)
          have hb0 : (rulErr l[k] != 0) = true := by simp [he]
          clear he
          go_wp2_with fail
          refine (refRule l[k] _).mono ?_
          rintro e w2 ⟨rfl, hb⟩
          have HB2 := Aside.mk (below_step (HB.out.alloc HB.out.size _) hb)
          clear hb
          go_wp2_with fail
          go_ret
          exact ⟨by rw [H.out, HT.out]; rfl, HB2.out⟩
      · obtain rfl : k = l.length := by omega
        have HT := Aside.mk (show firstErr rulErr l = 0 by have := HK.out; rwa [List.take_length] at this)
        go_wp2_with fail
        go_ret
        exact ⟨by rw [H.out, HT.out]; rfl, HB.out⟩
def whoOk (q : Who) : Bool := decide (0 ≤ q.role ∧ q.role ≤ 7) && decide (0 ≤ q.why ∧ q.why ≤ 3) && decide (0 ≤ q.time ∧ q.time ≤ 999)
theorem whoOk_iff {q : Who} : whoOk q = true ↔ (0 ≤ q.role ∧ q.role ≤ 7) ∧ (0 ≤ q.why ∧ q.why ≤ 3) ∧ 0 ≤ q.time ∧ q.time ≤ 999 := by
  unfold whoOk
  simp only [Bool.and_eq_true, decide_eq_true_eq, and_assoc]
set_option maxHeartbeats 1600000 in
set_option maxRecDepth 100000 in
theorem ruleWho (q : Who) (w : World) : Calls Tryz.prog 134 #[whoV q] w fun e w' => e = .returned (.bool (whoOk q)) ∧ Below w.heap.size w w' := by
  rcases (by omega : q.role < 0 ∨ (0 ≤ q.role ∧ 8 ≤ q.role) ∨ ((0 ≤ q.role ∧ q.role < 8) ∧ q.why < 0) ∨ ((0 ≤ q.role ∧ q.role < 8) ∧ 0 ≤ q.why ∧ 4 ≤ q.why) ∨ ((0 ≤ q.role ∧ q.role < 8) ∧ (0 ≤ q.why ∧ q.why < 4) ∧ q.time < 0) ∨ ((0 ≤ q.role ∧ q.role < 8) ∧ (0 ≤ q.why ∧ q.why < 4) ∧ 0 ≤ q.time ∧ 1000 ≤ q.time) ∨ ((0 ≤ q.role ∧ q.role < 8) ∧ (0 ≤ q.why ∧ q.why < 4) ∧ 0 ≤ q.time ∧ q.time < 1000)) with h | h | h | h | h | h | h
  case inr.inr.inr.inr.inr.inr =>
    have H := Aside.mk (whoOk_iff.2 (by omega : (0 ≤ q.role ∧ q.role ≤ 7) ∧ (0 ≤ q.why ∧ q.why ≤ 3) ∧ 0 ≤ q.time ∧ q.time ≤ 999))
    go_enter Tryz.func134, Tryz.ntmps134
    go_wp2_with fail
    go_ret
    exact ⟨by rw [H.out]; rfl, (Below.refl _ _).alloc (Nat.le_refl _) _⟩
  case inr.inr.inr.inr.inr.inl =>
    have H := Aside.mk (show whoOk q = false from Bool.eq_false_iff.2 fun h2 => by have := whoOk_iff.1 h2; omega)
    have g : decide (q.time < 1000) = false := by simp; omega
    go_enter Tryz.func134, Tryz.ntmps134
    go_wp2_with fail
    go_ret
    exact ⟨by rw [H.out]; rfl, (Below.refl _ _).alloc (Nat.le_refl _) _⟩
  all_goals
    have H := Aside.mk (show whoOk q = false from Bool.eq_false_iff.2 fun h2 => by have := whoOk_iff.1 h2; omega)
    go_enter Tryz.func134, Tryz.ntmps134
    go_wp2_with fail
    go_ret
    exact ⟨by rw [H.out]; rfl, (Below.refl _ _).alloc (Nat.le_refl _) _⟩
set_option maxHeartbeats 1600000 in
set_option maxRecDepth 100000 in
theorem refWho (q : Who) (w : World) : Calls Tryz.prog 175 #[whoV q] w fun e w' => e = .returned (.bool (whoOk q)) ∧ Below w.heap.size w w' := by
  cases h1 : decide (0 ≤ q.role ∧ q.role ≤ 7) <;> cases h2 : decide (0 ≤ q.why ∧ q.why ≤ 3) <;> cases h3 : decide (0 ≤ q.time ∧ q.time ≤ 999)
  all_goals
    have H := Aside.mk (show whoOk q = _ by unfold whoOk; rw [h1, h2, h3])
    go_enter Tryz.func175, Tryz.ntmps175
    go_wp2_with (go_at_call 90; refine (within _ _ _ _).mono ?_; (first | rw [h1] | rw [h2] | rw [h3]); rintro e w' ⟨rfl, rfl⟩)
    go_ret
    exact ⟨by rw [H.out]; rfl, (Below.refl _ _).alloc (Nat.le_refl _) _⟩
end Go.Proofs.WK
namespace Go.Proofs.WK
open Go.RowKit Rp
theorem sumN_congr {k : Nat} {p q : Nat → Bool} (h : ∀ i, i < k → p i = q i) : sumN k p = sumN k q := Nat.eq_of_testBit_eq fun j => by
  rw [testBit_sumN, testBit_sumN]
  by_cases hj : j < k
  · simp [hj, h j hj]
  · simp [hj]
theorem or_kinds (p : Nat → Bool) {c : Int} (h0 : 0 ≤ c) (h1 : c ≤ 255) : bits .or .i64 ((sumN 8 p : Nat) : Int) c = ((sumN 8 (fun i => p i || bit c i) : Nat) : Int) := by
  obtain ⟨x, rfl⟩ := Int.eq_ofNat_of_zero_le h0
  have := sumN_lt 8 p
  rw [or_s _ x 8 (by omega) this (by omega)]
  congr 1
  refine sumN_congr fun i hi => ?_
  rw [bit_sumN]
  simp [hi]
theorem andNot_kinds (p q : Nat → Bool) : bits .andNot .i64 ((sumN 8 p : Nat) : Int) ((sumN 8 q : Nat) : Int) = ((sumN 8 (fun i => p i && !q i) : Nat) : Int) := by
  have h1 := sumN_lt 8 p
  have h2 := sumN_lt 8 q
  rw [andNot_n _ _ 8 (by omega) h1 (by omega)]
  congr 1
  refine sumN_congr fun i hi => ?_
  rw [bit_sumN, bit_sumN]
  simp [hi]
def fA (o : Nat) (r : Rul) : Bool := decide (r.role < 0) || o.testBit r.role.toNat
def fB (r : Rul) (q : Who) : Bool := decide (r.why < 0) || r.why == q.why
def fitsB (o : Nat) (r : Rul) (q : Who) : Bool := fA o r && fB r q && decide (r.frm ≤ q.time) && decide (q.time < r.til)
set_option maxHeartbeats 4000000 in
set_option maxRecDepth 100000 in
theorem ruleFits (o : Nat) (ho : o < 256) (r : Rul) (q : Who) (h7 : r.role ≤ 7) (w : World) : Calls Tryz.prog 136 #[rulV r, .int .i64 o, whoV q] w fun e w' => e = .returned (.bool (fitsB o r q)) ∧ Below w.heap.size w w' := by
  have hrole : (r.role < 0 ∧ Aside (fA o r = true)) ∨ (∃ n : Nat, r.role = n ∧ n ≤ 7 ∧ bits .and .i64 ((o : Int) / 2 ^ n) 1 = 1 ∧ Aside (fA o r = true)) ∨ (∃ n : Nat, r.role = n ∧ n ≤ 7 ∧ bits .and .i64 ((o : Int) / 2 ^ n) 1 = 0 ∧ Aside (fA o r = false)) := by
    by_cases h0 : r.role < 0
    · exact .inl ⟨h0, ⟨by simp [fA, h0]⟩⟩
    · obtain ⟨n, hn⟩ : ∃ n : Nat, r.role = n := ⟨r.role.toNat, by omega⟩
      have ha := and_one (k := n) ho
      have hf : fA o r = o.testBit n := by unfold fA; rw [hn, decide_eq_false (by omega), Int.toNat_natCast]; rfl
      cases hb : o.testBit n
      · exact .inr (.inr ⟨n, hn, by omega, by rw [ha, hb]; rfl, ⟨hf.trans hb⟩⟩)
      · exact .inr (.inl ⟨n, hn, by omega, by rw [ha, hb]; rfl, ⟨hf.trans hb⟩⟩)
  have hwhy : (r.why < 0 ∧ Aside (fB r q = true)) ∨ (decide (r.why < 0) = false ∧ (r.why == q.why) = true ∧ Aside (fB r q = true)) ∨ (decide (r.why < 0) = false ∧ (r.why == q.why) = false ∧ Aside (fB r q = false)) := by
    by_cases h0 : r.why < 0
    · exact .inl ⟨h0, ⟨by simp [fB, h0]⟩⟩
    · have h1 : decide (r.why < 0) = false := decide_eq_false h0
      cases hb : (r.why == q.why)
      · exact .inr (.inr ⟨h1, rfl, ⟨by rw [fB, h1, hb]; rfl⟩⟩)
      · exact .inr (.inl ⟨h1, rfl, ⟨by rw [fB, h1, hb]; rfl⟩⟩)
  cases hc : decide (r.frm ≤ q.time) <;> cases hd : decide (q.time < r.til)
  all_goals
    have H0 : fitsB o r q = (fA o r && fB r q && decide (r.frm ≤ q.time) && decide (q.time < r.til)) := rfl
    rw [hc, hd] at H0
    rcases hrole with ⟨a1, HA⟩ | ⟨n, a1, a2, a3, HA⟩ | ⟨n, a1, a2, a3, HA⟩
  all_goals
    rcases hwhy with ⟨b1, HB⟩ | ⟨b1, b2, HB⟩ | ⟨b1, b2, HB⟩
  all_goals
    rw [HA.out, HB.out] at H0
    have H := Aside.mk H0
    clear H0
    go_enter Tryz.func136, Tryz.ntmps136
    go_wp2_with fail
    go_ret
    exact ⟨by rw [H.out]; rfl, ((Below.refl _ _).alloc (Nat.le_refl _) _).alloc (by simp) _⟩
end Go.Proofs.WK
namespace Go.Proofs.WK
open Go.RowKit Rp
def seesY (o : Nat) (l : List Rul) (q : Who) (k i : Nat) : Bool := (l.take k).any fun r => fitsB o r q && (r.allow && bit r.cats i)
def seesN (o : Nat) (l : List Rul) (q : Who) (k i : Nat) : Bool := (l.take k).any fun r => fitsB o r q && (!r.allow && bit r.cats i)
def yesN (o : Nat) (l : List Rul) (q : Who) (k : Nat) : Nat := sumN 8 fun i => seesY o l q k i
def noN (o : Nat) (l : List Rul) (q : Who) (k : Nat) : Nat := sumN 8 fun i => seesN o l q k i
theorem any_take {α : Type} {p : α → Bool} {l : List α} {k : Nat} (hk : k < l.length) : (l.take (k + 1)).any p = ((l.take k).any p || p l[k]) := by
  rw [List.take_succ_eq_append_getElem hk, List.any_append]; simp
theorem sees_skip {o : Nat} {l : List Rul} {q : Who} {k : Nat} (hk : k < l.length) (hf : fitsB o l[k] q = false) : yesN o l q (k + 1) = yesN o l q k ∧ noN o l q (k + 1) = noN o l q k := by
  constructor <;> refine sumN_congr fun i _ => ?_
  · unfold seesY; rw [any_take hk, hf]; simp
  · unfold seesN; rw [any_take hk, hf]; simp
theorem sees_yes {o : Nat} {l : List Rul} {q : Who} {k : Nat} (hk : k < l.length) (hf : fitsB o l[k] q = true) (ha : l[k].allow = true) (h0 : 0 ≤ l[k].cats) (h1 : l[k].cats ≤ 255) :
    bits .or .i64 (yesN o l q k : Int) l[k].cats = (yesN o l q (k + 1) : Int) ∧ noN o l q (k + 1) = noN o l q k := by
  constructor
  · unfold yesN
    rw [or_kinds _ h0 h1]
    congr 1
    refine sumN_congr fun i _ => ?_
    unfold seesY
    rw [any_take hk, hf, ha]; simp
  · refine sumN_congr fun i _ => ?_
    unfold seesN
    rw [any_take hk, hf, ha]; simp
theorem sees_no {o : Nat} {l : List Rul} {q : Who} {k : Nat} (hk : k < l.length) (hf : fitsB o l[k] q = true) (ha : l[k].allow = false) (h0 : 0 ≤ l[k].cats) (h1 : l[k].cats ≤ 255) :
    bits .or .i64 (noN o l q k : Int) l[k].cats = (noN o l q (k + 1) : Int) ∧ yesN o l q (k + 1) = yesN o l q k := by
  constructor
  · unfold noN
    rw [or_kinds _ h0 h1]
    congr 1
    refine sumN_congr fun i _ => ?_
    unfold seesN
    rw [any_take hk, hf, ha]; simp
  · refine sumN_congr fun i _ => ?_
    unfold seesY
    rw [any_take hk, hf, ha]; simp
def seesErr (up : List Int) (l : List Rul) (q : Who) : Int := if roleErr up = 0 then (if rulesErr l = 0 then (if whoOk q = true then allErr up q.role else 1) else rulesErr l) else roleErr up
def seesB (up : List Int) (l : List Rul) (q : Who) (i : Nat) : Bool := seesY (allR up q.role.toNat) l q l.length i && !seesN (allR up q.role.toNat) l q l.length i
def seesV (up : List Int) (l : List Rul) (q : Who) : Nat := if seesErr up l q = 0 then sumN 8 (seesB up l q) else 0
theorem rules_ok {l : List Rul} (h : rulesErr l = 0) : l.length ≤ 20 ∧ ∀ r ∈ l, rulErr r = 0 := by
  unfold rulesErr at h
  split at h
  · cases h
  · exact ⟨by omega, firstErr_none h⟩
theorem allR_lt (up : List Int) (i : Nat) : allR up i < 256 := sumN_lt 8 _
set_option maxHeartbeats 1600000 in
set_option maxRecDepth 100000 in
theorem ruleSees (A : Option Addr) (c : Nat) (up : List Int) (B : Option Addr) (d : Nat) (l : List Rul) (q : Who) (ok ok' : Nat → Prop) (w : World) (hr : int.Row w ok A up) (hc : up.length ≤ 9223372036854775807) (hr' : rulR.Row w ok' B l) (hc' : l.length ≤ 9223372036854775807) :
    Calls Tryz.prog 54 #[.slice A up.length c, .slice B l.length d, whoV q] w fun e w' => e = .returned (.tuple #[.int .i64 (seesV up l q), .int .i64 (seesErr up l q)]) ∧ Below w.heap.size w w' := by
  have hb1 : Below w.heap.size w (w.alloc (.cells (Rp.whoC q).toArray 31)) := (Below.refl _ _).alloc (Nat.le_refl _) _
  have HR := Aside.mk (hr.below hb1)
  have HL := Aside.mk (hr'.below hb1)
  have HQ := Aside.mk (Bk.made w (Rp.whoC q) 31)
  have HB := Aside.mk hb1
  clear hr hr' hb1
  by_cases h1 : roleErr up = 0
  · by_cases h2 : rulesErr l = 0
    · by_cases h3 : whoOk q = true
      · by_cases h4 : allErr up q.role = 0
        · have hR := rules_ok h2
          obtain ⟨hw1, hw2, hw3⟩ := whoOk_iff.1 h3
          have e1 : seesErr up l q = 0 := by rw [seesErr, if_pos h1, if_pos h2, if_pos h3, h4]
          have e2 : seesV up l q = sumN 8 (seesB up l q) := by rw [seesV, if_pos e1]
          have hlt : q.role < up.length := by
            unfold allErr at h4
            rw [if_pos h1] at h4
            split at h4
            · cases h4
            · omega
          have e3 : allV up q.role = allR up q.role.toNat := by rw [allV, if_pos h4]
          rw [e1, e2]
          have H1 := Aside.mk h1
          have H2 := Aside.mk h2
          have H4 := Aside.mk h4
          have H3 := Aside.mk h3
          have E3 := Aside.mk e3
          have ES := Aside.mk (show ((sumN 8 (seesB up l q) : Nat) : Int) = bits .andNot .i64 (yesN (allR up q.role.toNat) l q l.length : Int) (noN (allR up q.role.toNat) l q l.length : Int) from (andNot_kinds _ _).symm)
          have ho := allR_lt up q.role.toNat
          generalize allR up q.role.toNat = o at ho E3 ES
          obtain ⟨hR1, hR2⟩ := hR
          have HR3 := Aside.mk hR2
          clear hR2 e1 e2 e3 h1 h2 h3 h4
          go_enter Tryz.func54, Tryz.ntmps54
          go_wp2_with fail
          refine (roleCheck _ _ up _ _ HR.out hc).mono ?_
          rw [H1.out]
          rintro e w' ⟨rfl, rfl⟩
          go_wp2_with fail
          refine (ruleCheck _ _ l _ _ HL.out hc').mono ?_
          rw [H2.out]
          rintro e w2 ⟨rfl, hb⟩
          have HQ2 := Aside.mk (HQ.out.below hb)
          have HR2 := Aside.mk (HR.out.below hb)
          have HL2 := Aside.mk (HL.out.below hb)
          have q2 := HQ2.out.three
          have HB2 := Aside.mk (below_step HB.out hb)
          clear hb
          go_wp2_with fail
          refine (ruleWho q _).mono ?_
          rw [H3.out]
          rintro e w3 ⟨rfl, hb⟩
          have HQ3 := Aside.mk (HQ2.out.below hb)
          have HR4 := Aside.mk (HR2.out.below hb)
          have HL3 := Aside.mk (HL2.out.below hb)
          have HB3 := Aside.mk (below_step HB2.out hb)
          clear hb q2
          have q3 := HQ3.out.three
          go_wp2_with fail
          refine (roleAll _ _ up q.role _ _ HR4.out hc).mono ?_
          rw [H4.out, E3.out]
          rintro e w4 ⟨rfl, rfl⟩
          go_wp2_with fail
          go_loopw [12, 13, 41] (fun y n i wr => ∃ k : Nat, k ≤ l.length ∧ i = .int .i64 k ∧ y = .int .i64 (yesN o l q k) ∧ n = .int .i64 (noN o l q k) ∧ Aside (Below w3.heap.size w3 wr)) (fun _ _ i _ => l.length - (intOf i).toNat)
          case atStart => exact ⟨0, Nat.zero_le _, rfl, by simp [yesN, seesY, sumN], by simp [noN, seesN, sumN], ⟨Below.refl _ _⟩⟩
          case round =>
            clear q3
            obtain ⟨k, hk, rfl, rfl, rfl, HW⟩ := hrel
            have q3 := (HQ3.out.below HW.out).three
            by_cases hkl : k < l.length
            · obtain ⟨ad, rfl, hlt2, x0, x1, x2, x3, x4, x5⟩ := rul_at (HL3.out.below HW.out) hkl
              have hro := rul_of_ok (HR3.out l[k] (List.getElem_mem hkl))
              have hHW := Aside.mk (HW.out.alloc HW.out.size (.cells (Rp.rulC l[k]).toArray 89))
              go_wp2_with fail
              refine (ruleFits o ho l[k] q hro.2.1 _).mono ?_
              cases hf : fitsB o l[k] q with
              | false =>
                rintro e w5 ⟨rfl, hb⟩
                have HW5 := Aside.mk (below_step hHW.out hb)
                have HS := Aside.mk (sees_skip hkl hf)
                clear hb
                go_wp2_with fail
                refine ⟨⟨k + 1, by omega, by go_num, by rw [HS.out.1], by rw [HS.out.2], HW5⟩, by simp [intOf]; omega⟩
              | true =>
                rintro e w5 ⟨rfl, hb⟩
                have HW5 := Aside.mk (below_step hHW.out hb)
                have q5 := ((Bk.made _ (Rp.rulC l[k]) 89).below hb).six
                clear hb
                cases ha : l[k].allow with
                | true =>
                  obtain ⟨s1, s2⟩ := sees_yes hkl hf ha hro.2.2.2.2.2.2.1 hro.2.2.2.2.2.2.2.1
                  have HS := Aside.mk s2
                  rw [ha] at q5
                  clear s2 x5
                  go_wp2_with fail
                  refine ⟨⟨k + 1, by omega, by go_num, rfl, by rw [HS.out], HW5⟩, by simp [intOf]; omega⟩
                | false =>
                  obtain ⟨s1, s2⟩ := sees_no hkl hf ha hro.2.2.2.2.2.2.1 hro.2.2.2.2.2.2.2.1
                  have HS := Aside.mk s2
                  rw [ha] at q5
                  clear s2 x5
                  go_wp2_with fail
                  refine ⟨⟨k + 1, by omega, by go_num, by rw [HS.out], rfl, HW5⟩, by simp [intOf]; omega⟩
            · obtain rfl : k = l.length := by omega
              go_wp2_with fail
              go_ret2
              exact ⟨by rw [ES.out]; rfl, below_step HB3.out HW.out⟩
        · have e1 : seesErr up l q = allErr up q.role := by rw [seesErr, if_pos h1, if_pos h2, if_pos h3]
          have e2 : seesV up l q = 0 := by rw [seesV, e1, if_neg h4]
          have e3 : allV up q.role = 0 := if_neg h4
          have g : (allErr up q.role != 0) = true := by simp [h4]
          rw [e1, e2]
          have H1 := Aside.mk h1
          have H2 := Aside.mk h2
          have H3 := Aside.mk h3
          have E3 := Aside.mk e3
          clear e1 e2 e3 h1 h2 h3 h4
          go_enter Tryz.func54, Tryz.ntmps54
          go_wp2_with fail
          refine (roleCheck _ _ up _ _ HR.out hc).mono ?_
          rw [H1.out]
          rintro e w' ⟨rfl, rfl⟩
          go_wp2_with fail
          refine (ruleCheck _ _ l _ _ HL.out hc').mono ?_
          rw [H2.out]
          rintro e w2 ⟨rfl, hb⟩
          have HQ2 := Aside.mk (HQ.out.below hb)
          have HR2 := Aside.mk (HR.out.below hb)
          have HL2 := Aside.mk (HL.out.below hb)
          have q2 := HQ2.out.three
          have HB2 := Aside.mk (below_step HB.out hb)
          clear hb
          go_wp2_with fail
          refine (ruleWho q _).mono ?_
          rw [H3.out]
          rintro e w3 ⟨rfl, hb⟩
          have HQ3 := Aside.mk (HQ2.out.below hb)
          have HR4 := Aside.mk (HR2.out.below hb)
          have HB3 := Aside.mk (below_step HB2.out hb)
          clear hb q2
          have q3 := HQ3.out.three
          go_wp2_with fail
          refine (roleAll _ _ up q.role _ _ HR4.out hc).mono ?_
          rw [E3.out]
          rintro e w4 ⟨rfl, rfl⟩
          go_wp2_with fail
          go_ret2
          exact ⟨rfl, HB3.out⟩
      · have h3' : whoOk q = false := by simpa using h3
        have e1 : seesErr up l q = 1 := by rw [seesErr, if_pos h1, if_pos h2, if_neg h3]
        have e2 : seesV up l q = 0 := by rw [seesV, e1]; rfl
        rw [e1, e2]
        have H1 := Aside.mk h1
        have H2 := Aside.mk h2
        have H3 := Aside.mk h3'
        clear e1 e2 h1 h2 h3 h3'
        go_enter Tryz.func54, Tryz.ntmps54
        go_wp2_with fail
        refine (roleCheck _ _ up _ _ HR.out hc).mono ?_
        rw [H1.out]
        rintro e w' ⟨rfl, rfl⟩
        go_wp2_with fail
        refine (ruleCheck _ _ l _ _ HL.out hc').mono ?_
        rw [H2.out]
        rintro e w2 ⟨rfl, hb⟩
        have HQ2 := Aside.mk (HQ.out.below hb)
        have HR2 := Aside.mk (HR.out.below hb)
        have HL2 := Aside.mk (HL.out.below hb)
        have q2 := HQ2.out.three
        have HB2 := Aside.mk (below_step HB.out hb)
        clear hb
        go_wp2_with fail
        refine (ruleWho q _).mono ?_
        rw [H3.out]
        rintro e w3 ⟨rfl, hb⟩
        have HB3 := Aside.mk (below_step HB2.out hb)
        clear hb q2
        go_wp2_with fail
        go_ret2
        exact ⟨rfl, HB3.out⟩
    · have e1 : seesErr up l q = rulesErr l := by rw [seesErr, if_pos h1, if_neg h2]
      have e2 : seesV up l q = 0 := by rw [seesV, e1, if_neg h2]
      have g : (rulesErr l != 0) = true := by simp [h2]
      rw [e1, e2]
      have H1 := Aside.mk h1
      clear e1 e2 h2 h1
      go_enter Tryz.func54, Tryz.ntmps54
      go_wp2_with fail
      refine (roleCheck _ _ up _ _ HR.out hc).mono ?_
      rw [H1.out]
      rintro e w' ⟨rfl, rfl⟩
      go_wp2_with fail
      refine (ruleCheck _ _ l _ _ HL.out hc').mono ?_
      rintro e w2 ⟨rfl, hb⟩
      have HB2 := Aside.mk (below_step HB.out hb)
      clear hb
      go_wp2_with fail
      go_ret2
      exact ⟨rfl, HB2.out⟩
  · have e1 : seesErr up l q = roleErr up := by rw [seesErr, if_neg h1]
    have e2 : seesV up l q = 0 := by rw [seesV, e1, if_neg h1]
    have g : (roleErr up != 0) = true := by simp [h1]
    rw [e1, e2]
    clear e1 e2 h1
    go_enter Tryz.func54, Tryz.ntmps54
    go_wp2_with fail
    refine (roleCheck _ _ up _ _ HR.out hc).mono ?_
    rintro e w' ⟨rfl, rfl⟩
    go_wp2_with fail
    go_ret2
    exact ⟨rfl, HB.out⟩
end Go.Proofs.WK
namespace Go.Proofs.WK
open Go.RowKit Rp
theorem bit_z {n : Int} (h : 0 ≤ n) (k : Nat) : ((n / 2 ^ k).tmod 2 == 0) = !bit n k := by
  unfold bit
  rw [Int.tmod_eq_emod_of_nonneg (Int.ediv_nonneg h (Int.le_of_lt (Int.pow_pos (by decide))))]
  by_cases h1 : n / 2 ^ k % 2 = 1
  · simp [h1]
  · have : n / 2 ^ k % 2 = 0 := by omega
    simp [this]
theorem sumN_step (k : Nat) (p : Nat → Bool) : ((sumN (k + 1) p : Nat) : Int) = (sumN k p : Int) + if p k = true then pw2 k else 0 := by
  have h3 : ((2 ^ k : Nat) : Int) = pw2 k := by simp [pw2]
  simp only [sumN]
  split <;> omega
/-- What one rule says of kind i: to whom it fits. -/
def ruleB (o : Nat) (r : Rul) (q : Who) (i : Nat) : Bool := fitsB o r q && bit r.cats i
theorem seesY_step {o : Nat} {l : List Rul} {q : Who} {k i : Nat} (hk : k < l.length) : seesY o l q (k + 1) i = (seesY o l q k i || (ruleB o l[k] q i && l[k].allow)) := by
  unfold seesY ruleB
  rw [any_take hk, Bool.and_assoc, Bool.and_comm (bit _ _)]
theorem seesN_step {o : Nat} {l : List Rul} {q : Who} {k i : Nat} (hk : k < l.length) : seesN o l q (k + 1) i = (seesN o l q k i || (ruleB o l[k] q i && !l[k].allow)) := by
  unfold seesN ruleB
  rw [any_take hk, Bool.and_assoc, Bool.and_comm (bit _ _)]
theorem within_time (r : Rul) (q : Who) : decide (r.frm ≤ q.time ∧ q.time ≤ r.til - 1) = (decide (r.frm ≤ q.time) && decide (q.time < r.til)) := by
  rw [Bool.eq_iff_iff]
  simp
  omega
theorem fits_eq (o : Nat) (r : Rul) (q : Who) : fitsB o r q = (fA o r && fB r q && decide (r.frm ≤ q.time ∧ q.time ≤ r.til - 1)) := by rw [within_time, ← Bool.and_assoc]; rfl
theorem refErr {up : List Int} {q : Who} (h : roleErr up = 0) (hq : 0 ≤ q.role) : allErr up q.role = if (up.length : Int) ≤ q.role then 4 else 0 := by
  rw [allErr, if_pos h]
  by_cases h1 : (up.length : Int) ≤ q.role
  · rw [if_pos h1, if_pos (.inr h1)]
  · rw [if_neg h1, if_neg (by omega)]
theorem refComesI (A : Option Addr) (c : Nat) (up : List Int) (ok : Nat → Prop) (i k : Int) (hu : UpOk up) (h8 : up.length ≤ 8) (w : World) (hr : int.Row w ok A up) (h0 : 0 ≤ i) (hi : i < up.length) :
    Calls Tryz.prog 176 #[.slice A up.length c, .int .i64 i, .int .i64 k] w fun e w' => e = .returned (.bool (comes up i.toNat k)) ∧ w = w' := by
  obtain ⟨n, rfl⟩ := Int.eq_ofNat_of_zero_le h0
  exact refComes A c up ok k h8 hu 9 n w hr (by omega) (by omega)
theorem rule_ways (up : List Int) (r : Rul) (n : Nat) (hu : UpOk up) (hn : n < up.length) (h8 : up.length ≤ 8) (h0 : -1 ≤ r.role) (h7 : r.role ≤ 7) :
    ((r.role != -1) = false ∧ Aside (fA (allR up n) r = true)) ∨ ((r.role != -1) = true ∧ decide ((up.length : Int) ≤ r.role) = true ∧ Aside (fA (allR up n) r = false)) ∨
    ((r.role != -1) = true ∧ decide ((up.length : Int) ≤ r.role) = false ∧ comes up n r.role = false ∧ Aside (fA (allR up n) r = false)) ∨ ((r.role != -1) = true ∧ decide ((up.length : Int) ≤ r.role) = false ∧ comes up n r.role = true ∧ Aside (fA (allR up n) r = true)) := by
  by_cases h : r.role = -1
  · exact .inl ⟨by simp [h], ⟨by simp [fA, h]⟩⟩
  · have hne : (r.role != -1) = true := by simp [h]
    obtain ⟨m, hm⟩ : ∃ m : Nat, r.role = m := ⟨r.role.toNat, by omega⟩
    have hf : fA (allR up n) r = comes up n r.role := by
      have h1 := bit_allR up n m
      rw [bit_nat] at h1
      unfold fA
      rw [hm, decide_eq_false (by omega), Int.toNat_natCast, h1, decide_eq_true (by omega)]
      rfl
    by_cases hl : (up.length : Int) ≤ r.role
    · exact .inr (.inl ⟨hne, decide_eq_true hl, ⟨by rw [hf, hm]; exact comes_far hu (by omega) (by omega)⟩⟩)
    · cases hc : comes up n r.role
      · exact .inr (.inr (.inl ⟨hne, decide_eq_false hl, rfl, ⟨hf.trans hc⟩⟩))
      · exact .inr (.inr (.inr ⟨hne, decide_eq_false hl, rfl, ⟨hf.trans hc⟩⟩))
theorem why_ways (r : Rul) (q : Who) (h0 : -1 ≤ r.why) : ((r.why != -1) = false ∧ Aside (fB r q = true)) ∨ ((r.why != -1) = true ∧ (r.why != q.why) = true ∧ Aside (fB r q = false)) ∨ ((r.why != -1) = true ∧ (r.why != q.why) = false ∧ Aside (fB r q = true)) := by
  by_cases h : r.why = -1
  · exact .inl ⟨by simp [h], ⟨by simp [fB, h]⟩⟩
  · have hne : (r.why != -1) = true := by simp [h]
    have hd : decide (r.why < 0) = false := decide_eq_false (by omega)
    by_cases he : r.why = q.why
    · exact .inr (.inr ⟨hne, by simp [he], ⟨by rw [fB, hd]; simp [he]⟩⟩)
    · exact .inr (.inl ⟨hne, by simp [he], ⟨by rw [fB, hd]; simp [he]⟩⟩)
set_option maxHeartbeats 8000000 in
set_option maxRecDepth 100000 in
theorem refSees (A : Option Addr) (c : Nat) (up : List Int) (B : Option Addr) (d : Nat) (l : List Rul) (q : Who) (ok ok' : Nat → Prop) (w : World) (hr : int.Row w ok A up) (hc : up.length ≤ 9223372036854775807) (hr' : rulR.Row w ok' B l) (hc' : l.length ≤ 9223372036854775807) :
    Calls Tryz.prog 104 #[.slice A up.length c, .slice B l.length d, whoV q] w fun e w' => e = .returned (.tuple #[.int .i64 (seesV up l q), .int .i64 (seesErr up l q)]) ∧ Below w.heap.size w w' := by
  have hb1 : Below w.heap.size w (w.alloc (.cells (Rp.whoC q).toArray 31)) := (Below.refl _ _).alloc (Nat.le_refl _) _
  have HR := Aside.mk (hr.below hb1)
  have HL := Aside.mk (hr'.below hb1)
  have HQ := Aside.mk (Bk.made w (Rp.whoC q) 31)
  have HB := Aside.mk hb1
  clear hr hr' hb1
  by_cases h1 : roleErr up = 0
  · by_cases h2 : rulesErr l = 0
    · by_cases h3 : whoOk q = true
      · by_cases h4 : (up.length : Int) ≤ q.role
        · have e1 : seesErr up l q = 4 := by rw [seesErr, if_pos h1, if_pos h2, if_pos h3, refErr h1 (whoOk_iff.1 h3).1.1, if_pos h4]
          have e2 : seesV up l q = 0 := by rw [seesV, e1]; rfl
          rw [e1, e2]
          have H1 := Aside.mk h1
          have H2 := Aside.mk h2
          have H3 := Aside.mk h3
          have g := decide_eq_true h4
          clear e1 e2 h1 h2 h3
          go_enter Tryz.func104, Tryz.ntmps104
          go_wp2_with fail
          refine (refRoles _ _ up _ _ HR.out hc).mono ?_
          rw [H1.out]
          rintro e w' ⟨rfl, rfl⟩
          go_wp2_with fail
          refine (refRules _ _ l _ _ HL.out hc').mono ?_
          rw [H2.out]
          rintro e w2 ⟨rfl, hb⟩
          have HQ2 := Aside.mk (HQ.out.below hb)
          have q2 := HQ2.out.three
          have HB2 := Aside.mk (below_step HB.out hb)
          clear hb
          go_wp2_with fail
          refine (refWho q _).mono ?_
          rw [H3.out]
          rintro e w3 ⟨rfl, hb⟩
          have q3 := (HQ2.out.below hb).three
          have HB3 := Aside.mk (below_step HB2.out hb)
          clear hb q2
          go_wp2_with fail
          go_ret2
          exact ⟨rfl, HB3.out⟩
        · obtain ⟨hR1, hR2⟩ := rules_ok h2
          obtain ⟨h8, hu⟩ := roleErr_ok h1
          obtain ⟨⟨qr0, qr7⟩, ⟨qw0, qw3⟩, qt0, qt9⟩ := whoOk_iff.1 h3
          have e1 : seesErr up l q = 0 := by rw [seesErr, if_pos h1, if_pos h2, if_pos h3, refErr h1 qr0, if_neg h4]
          have e2 : seesV up l q = sumN 8 (seesB up l q) := by rw [seesV, if_pos e1]
          rw [e1, e2]
          have hlt : q.role < up.length := by omega
          have H1 := Aside.mk h1
          have H2 := Aside.mk h2
          have H3 := Aside.mk h3
          have HU := Aside.mk (show UpOk up from hu)
          have HR3 := Aside.mk hR2
          have HES : Aside (∀ i, seesB up l q i = (seesY (allR up q.role.toNat) l q l.length i && !seesN (allR up q.role.toNat) l q l.length i)) := ⟨fun _ => rfl⟩
          have HWY := Aside.mk (fun r : Rul => rule_ways up r q.role.toNat hu (by omega) h8)
          generalize allR up q.role.toNat = o at HES HWY
          have g := decide_eq_false h4
          clear e1 e2 h1 h2 h3 hR2 hu
          go_enter Tryz.func104, Tryz.ntmps104
          go_wp2_with fail
          refine (refRoles _ _ up _ _ HR.out hc).mono ?_
          rw [H1.out]
          rintro e w' ⟨rfl, rfl⟩
          go_wp2_with fail
          refine (refRules _ _ l _ _ HL.out hc').mono ?_
          rw [H2.out]
          rintro e w2 ⟨rfl, hb⟩
          have HQ2 := Aside.mk (HQ.out.below hb)
          have HR2 := Aside.mk (HR.out.below hb)
          have HL2 := Aside.mk (HL.out.below hb)
          have q2 := HQ2.out.three
          have HB2 := Aside.mk (below_step HB.out hb)
          clear hb
          go_wp2_with fail
          refine (refWho q _).mono ?_
          rw [H3.out]
          rintro e w3 ⟨rfl, hb⟩
          have HQ3 := Aside.mk (HQ2.out.below hb)
          have HR4 := Aside.mk (HR2.out.below hb)
          have HL3 := Aside.mk (HL2.out.below hb)
          have HB3 := Aside.mk (below_step HB2.out hb)
          clear hb q2
          have q3 := HQ3.out.three
          go_wp2_with fail
          go_loopw [10, 34] (fun u x wr => ∃ i : Nat, i ≤ 8 ∧ x = .int .i64 i ∧ u = .int .i64 (sumN i (seesB up l q)) ∧ Aside (Below w3.heap.size w3 wr)) (fun _ x _ => 8 - (intOf x).toNat)
          case atStart => exact ⟨0, Nat.zero_le _, rfl, rfl, ⟨Below.refl _ _⟩⟩
          case round =>
            clear q3
            obtain ⟨i, hi, rfl, rfl, HW⟩ := hrel
            by_cases hi8 : i < 8
            · have g8 : decide ((i : Int) < 8) = true := by simp; omega
              go_wp2_with fail
              rename World => wo
              go_loopw [12, 13, 39] (fun y n x wr => ∃ k : Nat, k ≤ l.length ∧ x = .int .i64 k ∧ y = .bool (seesY o l q k i) ∧ n = .bool (seesN o l q k i) ∧ Aside (Below w3.heap.size w3 wr)) (fun _ _ x _ => l.length - (intOf x).toNat)
              case atStart => exact ⟨0, Nat.zero_le _, rfl, rfl, rfl, HW⟩
              case round =>
                clear HW
                obtain ⟨k, hk, rfl, rfl, rfl, HW⟩ := hrel
                by_cases hkl : k < l.length
                · obtain ⟨ad, rfl, hlt2, x0, x1, x2, x3, x4, x5⟩ := rul_at (HL3.out.below HW.out) hkl
                  obtain ⟨ro0, ro7, ry0, ry3, rf0, rt1, rc0, rc2, rft⟩ := rul_of_ok (HR3.out l[k] (List.getElem_mem hkl))
                  have hHW := Aside.mk (HW.out.alloc HW.out.size (.cells (Rp.rulC l[k]).toArray 89))
                  have q3 := (HQ3.out.below HW.out).three
                  have g9 : decide ((k : Int) < (l.length : Int)) = true := by simp; omega
                  go_upto_region 19 with fail
                  go_cut [92] (fun b wx => b = .bool (!ruleB o l[k] q i) ∧ wx = wr.alloc (.cells (Rp.rulC l[k]).toArray 89))
                  case first =>
                    have hbz := bit_z rc0 i
                    cases hb : bit l[k].cats i with
                    | false =>
                      have HG := Aside.mk (show ruleB o l[k] q i = false by rw [ruleB, hb, Bool.and_false])
                      rw [hb] at hbz
                      go_wp2_with fail
                      go_meet
                      exact ⟨by rw [HG.out]; rfl, rfl⟩
                    | true =>
                      rw [hb] at hbz
                      have HRw : Aside (int.Row (wr.alloc (.cells #[.int .i64 l[k].role, .int .i64 l[k].why, .int .i64 l[k].frm, .int .i64 l[k].til, .int .i64 l[k].cats, .bool l[k].allow] 89)) ok A up) := ⟨(HR4.out.below HW.out).below ((Below.refl _ _).alloc (Nat.le_refl _) _)⟩
                      cases ht : decide (l[k].frm ≤ q.time ∧ q.time ≤ l[k].til - 1)
                      all_goals
                        rcases HWY.out l[k] ro0 ro7 with ⟨v1, HA⟩ | ⟨v1, v2, HA⟩ | ⟨v1, v2, v3, HA⟩ | ⟨v1, v2, v3, HA⟩
                      all_goals
                        rcases why_ways l[k] q ry0 with ⟨y1, HY⟩ | ⟨y1, y2, HY⟩ | ⟨y1, y2, HY⟩
                      all_goals
                        have HG := Aside.mk (show ruleB o l[k] q i = _ by rw [ruleB, hb, fits_eq, HA.out, HY.out, ht])
                        go_wp2_with (first | (go_at_call 176; refine (refComesI _ _ up _ q.role l[k].role HU.out h8 _ HRw.out qr0 hlt).mono ?_; (first | rw [v3] | skip); rintro e w' ⟨rfl, rfl⟩) | (go_at_call 90; refine (within _ _ _ _).mono ?_; rw [ht]; rintro e w' ⟨rfl, rfl⟩))
                        go_meet
                        exact ⟨by rw [HG.out]; rfl, rfl⟩
                  case rest =>
                    obtain ⟨rfl, rfl⟩ := hcut
                    have hY := Aside.mk (seesY_step (o := o) (q := q) (i := i) hkl)
                    have hN := Aside.mk (seesN_step (o := o) (q := q) (i := i) hkl)
                    have q5 := (Bk.made wr (Rp.rulC l[k]) 89).six
                    cases hG : ruleB o l[k] q i with
                    | false =>
                      rw [hG] at hY hN
                      go_wp2_with fail
                      refine ⟨⟨k + 1, by omega, by go_num, by rw [hY.out]; simp, by rw [hN.out]; simp, hHW⟩, by simp [intOf]; omega⟩
                    | true =>
                      rw [hG] at hY hN
                      cases hy : seesY o l q k i <;> cases hn : seesN o l q k i <;> cases ha : l[k].allow
                      all_goals
                        rw [hy, ha] at hY
                        rw [hn, ha] at hN
                        rw [ha] at q5
                        go_wp2_with fail
                        refine ⟨⟨k + 1, by omega, by go_num, by rw [hY.out]; rfl, by rw [hN.out]; rfl, hHW⟩, by simp [intOf]; omega⟩
                · obtain rfl : k = l.length := by omega
                  have hS := Aside.mk (sumN_step i (seesB up l q))
                  have hE := HES.out i
                  have hlt8 := sumN_lt i (seesB up l q)
                  have hlt9 : 2 ^ i ≤ 2 ^ 7 := Nat.pow_le_pow_right (by omega) (by omega)
                  obtain ⟨p1, p2⟩ := pw2_le (k := i) (by omega)
                  have e2 : (2 : Int) ^ i = pw2 i := rfl
                  have hs0 : sumN i (seesB up l q) < 256 := by omega
                  clear hlt8 hlt9
                  cases hy : seesY o l q l.length i <;> cases hn : seesN o l q l.length i
                  all_goals
                    rw [hy, hn] at hE
                    have HE := Aside.mk hE
                    clear hE
                    go_wp2_with fail
                    refine ⟨⟨i + 1, by omega, by go_num, by rw [hS.out, HE.out]; simp, HW⟩, by simp [intOf]; omega⟩
            · obtain rfl : i = 8 := by omega
              go_wp2_with fail
              go_ret2
              exact ⟨rfl, below_step HB3.out HW.out⟩
      · have h3' : whoOk q = false := by simpa using h3
        have e1 : seesErr up l q = 1 := by rw [seesErr, if_pos h1, if_pos h2, if_neg h3]
        have e2 : seesV up l q = 0 := by rw [seesV, e1]; rfl
        rw [e1, e2]
        have H1 := Aside.mk h1
        have H2 := Aside.mk h2
        have H3 := Aside.mk h3'
        clear e1 e2 h1 h2 h3 h3'
        go_enter Tryz.func104, Tryz.ntmps104
        go_wp2_with fail
        refine (refRoles _ _ up _ _ HR.out hc).mono ?_
        rw [H1.out]
        rintro e w' ⟨rfl, rfl⟩
        go_wp2_with fail
        refine (refRules _ _ l _ _ HL.out hc').mono ?_
        rw [H2.out]
        rintro e w2 ⟨rfl, hb⟩
        have q2 := (HQ.out.below hb).three
        have HB2 := Aside.mk (below_step HB.out hb)
        clear hb
        go_wp2_with fail
        refine (refWho q _).mono ?_
        rw [H3.out]
        rintro e w3 ⟨rfl, hb⟩
        have HB3 := Aside.mk (below_step HB2.out hb)
        clear hb q2
        go_wp2_with fail
        go_ret2
        exact ⟨rfl, HB3.out⟩
    · have e1 : seesErr up l q = rulesErr l := by rw [seesErr, if_pos h1, if_neg h2]
      have e2 : seesV up l q = 0 := by rw [seesV, e1, if_neg h2]
      have g : (rulesErr l != 0) = true := by simp [h2]
      rw [e1, e2]
      have H1 := Aside.mk h1
      clear e1 e2 h2 h1
      go_enter Tryz.func104, Tryz.ntmps104
      go_wp2_with fail
      refine (refRoles _ _ up _ _ HR.out hc).mono ?_
      rw [H1.out]
      rintro e w' ⟨rfl, rfl⟩
      go_wp2_with fail
      refine (refRules _ _ l _ _ HL.out hc').mono ?_
      rintro e w2 ⟨rfl, hb⟩
      have HB2 := Aside.mk (below_step HB.out hb)
      clear hb
      go_wp2_with fail
      go_ret2
      exact ⟨rfl, HB2.out⟩
  · have e1 : seesErr up l q = roleErr up := by rw [seesErr, if_neg h1]
    have e2 : seesV up l q = 0 := by rw [seesV, e1, if_neg h1]
    have g : (roleErr up != 0) = true := by simp [h1]
    rw [e1, e2]
    clear e1 e2 h1
    go_enter Tryz.func104, Tryz.ntmps104
    go_wp2_with fail
    refine (refRoles _ _ up _ _ HR.out hc).mono ?_
    rintro e w' ⟨rfl, rfl⟩
    go_wp2_with fail
    go_ret2
    exact ⟨rfl, HB.out⟩
end Go.Proofs.WK
namespace Go.Proofs.WK
open Go.RowKit Rp
def mayErr (up : List Int) (l : List Rul) (q : Who) (cats : Int) : Int := if seesErr up l q = 0 then (if 0 ≤ cats ∧ cats ≤ 255 then 0 else 1) else seesErr up l q
def mayV (up : List Int) (l : List Rul) (q : Who) (cats : Int) : Bool := mayErr up l q cats == 0 && part cats (seesV up l q)
theorem seesV_lt (up : List Int) (l : List Rul) (q : Who) : seesV up l q < 256 := by
  unfold seesV
  split
  · exact sumN_lt 8 _
  · omega
set_option maxHeartbeats 1600000 in
set_option maxRecDepth 100000 in
theorem ruleMay (A : Option Addr) (c : Nat) (up : List Int) (B : Option Addr) (d : Nat) (l : List Rul) (q : Who) (cats : Int) (ok ok' : Nat → Prop) (w : World) (hr : int.Row w ok A up) (hc : up.length ≤ 9223372036854775807) (hr' : rulR.Row w ok' B l) (hc' : l.length ≤ 9223372036854775807) :
    Calls Tryz.prog 132 #[.slice A up.length c, .slice B l.length d, whoV q, .int .i64 cats] w fun e w' => e = .returned (.tuple #[.bool (mayV up l q cats), .int .i64 (mayErr up l q cats)]) ∧ Below w.heap.size w w' := by
  have hb1 : Below w.heap.size w (w.alloc (.cells (Rp.whoC q).toArray 31)) := (Below.refl _ _).alloc (Nat.le_refl _) _
  have HR := Aside.mk (hr.below hb1)
  have HL := Aside.mk (hr'.below hb1)
  have HB := Aside.mk hb1
  clear hr hr' hb1
  by_cases h1 : seesErr up l q = 0
  · have H1 := Aside.mk h1
    have e1 : mayErr up l q cats = if 0 ≤ cats ∧ cats ≤ 255 then 0 else 1 := if_pos h1
    clear h1
    cases hk : decide (0 ≤ cats ∧ cats ≤ 255) with
    | true =>
      have hk2 := of_decide_eq_true hk
      have e2 : mayErr up l q cats = 0 := by rw [e1, if_pos hk2]
      have e3 : mayV up l q cats = part cats (seesV up l q) := by rw [mayV, e2]; rfl
      have hv := seesV_lt up l q
      have hp := part_andNot (a := cats) (b := seesV up l q) hk2.1 hk2.2 (by omega) (by omega)
      rw [e2, e3]
      have h0 := hk2.1
      clear e1 e2 e3 hk2
      go_enter Tryz.func132, Tryz.ntmps132
      go_wp2_with fail
      refine (ruleSees _ _ up _ _ l q _ _ _ HR.out hc HL.out hc').mono ?_
      rw [H1.out]
      rintro e w2 ⟨rfl, hb⟩
      have HB2 := Aside.mk (below_step HB.out hb)
      clear hb
      go_wp2_with fail
      refine (labelCats cats _).mono ?_
      rw [hk]
      rintro e w3 ⟨rfl, rfl⟩
      go_wp2_with fail
      first
      | (go_ret2; exact ⟨rfl, HB2.out⟩)
      | (refine (partC cats _ h0 (by omega) _).mono ?_
         rintro e w4 ⟨rfl, hb⟩
         have HB3 := Aside.mk (below_step HB2.out hb)
         clear hb
         go_wp2_with fail
         go_ret2
         exact ⟨rfl, HB3.out⟩)
    | false =>
      have e2 : mayErr up l q cats = 1 := by rw [e1, if_neg (of_decide_eq_false hk)]
      have e3 : mayV up l q cats = false := by rw [mayV, e2]; rfl
      rw [e2, e3]
      clear e1 e2 e3
      go_enter Tryz.func132, Tryz.ntmps132
      go_wp2_with fail
      refine (ruleSees _ _ up _ _ l q _ _ _ HR.out hc HL.out hc').mono ?_
      rw [H1.out]
      rintro e w2 ⟨rfl, hb⟩
      have HB2 := Aside.mk (below_step HB.out hb)
      clear hb
      go_wp2_with fail
      refine (labelCats cats _).mono ?_
      rw [hk]
      rintro e w3 ⟨rfl, rfl⟩
      go_wp2_with fail
      go_ret2
      exact ⟨rfl, HB2.out⟩
  · have e1 : mayErr up l q cats = seesErr up l q := if_neg h1
    have e2 : mayV up l q cats = false := by rw [mayV, e1]; simp [h1]
    have g : (seesErr up l q != 0) = true := by simp [h1]
    have g2 : (seesErr up l q == 0) = false := by simp [h1]
    rw [e1, e2]
    clear e1 e2 h1
    go_enter Tryz.func132, Tryz.ntmps132
    go_wp2_with fail
    refine (ruleSees _ _ up _ _ l q _ _ _ HR.out hc HL.out hc').mono ?_
    rintro e w2 ⟨rfl, hb⟩
    have HB2 := Aside.mk (below_step HB.out hb)
    clear hb
    go_wp2_with fail
    go_ret2
    exact ⟨rfl, HB2.out⟩
set_option maxHeartbeats 1600000 in
set_option maxRecDepth 100000 in
theorem refMay (A : Option Addr) (c : Nat) (up : List Int) (B : Option Addr) (d : Nat) (l : List Rul) (q : Who) (cats : Int) (ok ok' : Nat → Prop) (w : World) (hr : int.Row w ok A up) (hc : up.length ≤ 9223372036854775807) (hr' : rulR.Row w ok' B l) (hc' : l.length ≤ 9223372036854775807) :
    Calls Tryz.prog 101 #[.slice A up.length c, .slice B l.length d, whoV q, .int .i64 cats] w fun e w' => e = .returned (.tuple #[.bool (mayV up l q cats), .int .i64 (mayErr up l q cats)]) ∧ Below w.heap.size w w' := by
  have hb1 : Below w.heap.size w (w.alloc (.cells (Rp.whoC q).toArray 31)) := (Below.refl _ _).alloc (Nat.le_refl _) _
  have HR := Aside.mk (hr.below hb1)
  have HL := Aside.mk (hr'.below hb1)
  have HB := Aside.mk hb1
  clear hr hr' hb1
  by_cases h1 : seesErr up l q = 0
  · have H1 := Aside.mk h1
    have e1 : mayErr up l q cats = if 0 ≤ cats ∧ cats ≤ 255 then 0 else 1 := if_pos h1
    clear h1
    cases hk : decide (0 ≤ cats ∧ cats ≤ 255) with
    | true =>
      have hk2 := of_decide_eq_true hk
      have e2 : mayErr up l q cats = 0 := by rw [e1, if_pos hk2]
      have e3 : mayV up l q cats = part cats (seesV up l q) := by rw [mayV, e2]; rfl
      have hv := seesV_lt up l q
      have hp := part_andNot (a := cats) (b := seesV up l q) hk2.1 hk2.2 (by omega) (by omega)
      rw [e2, e3]
      have h0 := hk2.1
      clear e1 e2 e3 hk2
      go_enter Tryz.func101, Tryz.ntmps101
      go_wp2_with fail
      refine (refSees _ _ up _ _ l q _ _ _ HR.out hc HL.out hc').mono ?_
      rw [H1.out]
      rintro e w2 ⟨rfl, hb⟩
      have HB2 := Aside.mk (below_step HB.out hb)
      clear hb
      go_wp2_with fail
      refine (refCats cats _).mono ?_
      rw [hk]
      rintro e w3 ⟨rfl, rfl⟩
      go_wp2_with fail
      first
      | (go_ret2; exact ⟨rfl, HB2.out⟩)
      | (refine (partC cats _ h0 (by omega) _).mono ?_
         rintro e w4 ⟨rfl, hb⟩
         have HB3 := Aside.mk (below_step HB2.out hb)
         clear hb
         go_wp2_with fail
         go_ret2
         exact ⟨rfl, HB3.out⟩)
    | false =>
      have e2 : mayErr up l q cats = 1 := by rw [e1, if_neg (of_decide_eq_false hk)]
      have e3 : mayV up l q cats = false := by rw [mayV, e2]; rfl
      rw [e2, e3]
      clear e1 e2 e3
      go_enter Tryz.func101, Tryz.ntmps101
      go_wp2_with fail
      refine (refSees _ _ up _ _ l q _ _ _ HR.out hc HL.out hc').mono ?_
      rw [H1.out]
      rintro e w2 ⟨rfl, hb⟩
      have HB2 := Aside.mk (below_step HB.out hb)
      clear hb
      go_wp2_with fail
      refine (refCats cats _).mono ?_
      rw [hk]
      rintro e w3 ⟨rfl, rfl⟩
      go_wp2_with fail
      go_ret2
      exact ⟨rfl, HB2.out⟩
  · have e1 : mayErr up l q cats = seesErr up l q := if_neg h1
    have e2 : mayV up l q cats = false := by rw [mayV, e1]; simp [h1]
    have g : (seesErr up l q != 0) = true := by simp [h1]
    have g2 : (seesErr up l q == 0) = false := by simp [h1]
    rw [e1, e2]
    clear e1 e2 h1
    go_enter Tryz.func101, Tryz.ntmps101
    go_wp2_with fail
    refine (refSees _ _ up _ _ l q _ _ _ HR.out hc HL.out hc').mono ?_
    rintro e w2 ⟨rfl, hb⟩
    have HB2 := Aside.mk (below_step HB.out hb)
    clear hb
    go_wp2_with fail
    go_ret2
    exact ⟨rfl, HB2.out⟩
end Go.Proofs.WK
