/-
  Package role and what the reference says of roles (P7, P8): Check, All; wyref.Roles, Comes.
-/
import Derived.Test.YtljjiicjnoljbaaDoorPl0
import Derived.Test.YtljjiicjnoljbaaDoorDat
import Derived.Test.YtljjiicjnoljbaaDoorBits
namespace Go.Proofs.WK
open Go.RowKit Rp
def pw2 (k : Nat) : Int := 2 ^ k
theorem pw2_step (k : Nat) : pw2 (k + 1) = pw2 k + pw2 k := by unfold pw2; rw [Int.pow_succ]; omega
theorem pw2_le {k : Nat} (h : k ≤ 8) : 1 ≤ pw2 k ∧ pw2 k ≤ 256 := by
  have h1 : 2 ^ k ≤ 2 ^ 8 := Nat.pow_le_pow_right (by omega) h
  have h2 : 0 < 2 ^ k := Nat.pow_pos (by omega)
  have h3 : ((2 ^ k : Nat) : Int) = 2 ^ k := by simp
  unfold pw2
  omega

set_option maxRecDepth 100000 in
theorem roleCheck (A : Option Addr) (c : Nat) (up : List Int) (ok : Nat → Prop) (w : World) (hr : int.Row w ok A up) (hc : up.length ≤ 9223372036854775807) :
    Calls Tryd.prog 14 #[.slice A up.length c] w fun e w' => e = .returned (.int .i64 (roleErr up)) ∧ w = w' := by
  have HR := Aside.mk hr
  clear hr
  by_cases h8 : 8 < up.length
  · have H := Aside.mk (show roleErr up = 2 from if_pos h8)
    go_enter Tryd.func14, Tryd.ntmps14
    go_wp2_with fail
    go_ret
    exact ⟨by rw [H.out]; rfl, rfl⟩
  · have H := Aside.mk (show roleErr up = if upOkK up up.length = true then 0 else 1 from if_neg h8)
    have g8 : decide ((8 : Int) < (up.length : Int)) = false := by simp; omega
    go_enter Tryd.func14, Tryd.ntmps14
    go_wp2_with fail
    go_loopw [10] (fun i wr => ∃ k : Nat, k ≤ up.length ∧ i = .int .i64 k ∧ Aside (upOkK up k = true) ∧ w = wr) (fun i _ => up.length - (intOf i).toNat)
    case atStart => exact ⟨0, Nat.zero_le _, rfl, ⟨rfl⟩, rfl⟩
    case round =>
      obtain ⟨k, hk, rfl, HK, rfl⟩ := hrel
      by_cases hlt : k < up.length
      · obtain ⟨ad, rfl, _, h1⟩ := int_at HR.out hlt
        have hS := Aside.mk (upOkK_step up k)
        obtain ⟨p1, p2⟩ := pw2_le (k := k) (by omega)
        have hO : upOne up k = (decide (0 ≤ up[k]) && decide (up[k] < pw2 k)) := by rw [upOne, upAt_get hlt]; rfl
        have e2 : (2 : Int) ^ k = pw2 k := rfl
        by_cases hn : up[k] < 0
        · have HF := Aside.mk (show upOkK up up.length = false from Bool.eq_false_iff.2 fun h => by
            have := upOkK_le h hlt
            rw [hO] at this
            simp at this
            omega)
          clear hO
          go_wp2_with fail
          go_ret
          exact ⟨by rw [H.out, HF.out]; rfl, rfl⟩
        · have n0 : decide (up[k] < 0) = false := by simp; omega
          by_cases hp : pw2 k ≤ up[k]
          · have HF := Aside.mk (show upOkK up up.length = false from Bool.eq_false_iff.2 fun h => by
              have := upOkK_le h hlt
              rw [hO] at this
              simp at this
              omega)
            clear hO
            go_wp2_with fail
            go_ret
            exact ⟨by rw [H.out, HF.out]; rfl, rfl⟩
          · have HT := Aside.mk (show upOkK up (k + 1) = true by rw [hS.out, HK.out, hO]; simp; omega)
            clear hO
            go_wp2_with fail
            refine ⟨⟨k + 1, by omega, by go_num, HT, trivial⟩, by simp [intOf]; omega⟩
      · obtain rfl : k = up.length := by omega
        go_wp2_with fail
        go_ret
        exact ⟨by rw [H.out, HK.out]; rfl, rfl⟩
set_option maxRecDepth 100000 in
theorem roleAll (A : Option Addr) (c : Nat) (up : List Int) (i : Int) (ok : Nat → Prop) (w : World) (hr : int.Row w ok A up) (hc : up.length ≤ 9223372036854775807) :
    Calls Tryd.prog 10 #[.slice A up.length c, .int .i64 i] w fun e w' => e = .returned (.tuple #[.int .i64 (allV up i), .int .i64 (allErr up i)]) ∧ w = w' := by
  have HR := Aside.mk hr
  by_cases ho : roleErr up = 0
  · obtain ⟨h8, hu⟩ := roleErr_ok ho
    have HU : Aside (UpOk up) := ⟨hu⟩
    clear hu
    by_cases hi : i < 0 ∨ up.length ≤ i
    · have e1 : allErr up i = 4 := by rw [allErr, if_pos ho, if_pos hi]
      have e2 : allV up i = 0 := by rw [allV, e1]; rfl
      rw [e1, e2]
      clear e1 e2
      by_cases hi0 : i < 0
      · clear hi
        go_enter Tryd.func10, Tryd.ntmps10
        go_wp2_with fail
        refine (roleCheck _ c up ok _ HR.out hc).mono ?_
        rw [ho]
        rintro e w' ⟨rfl, rfl⟩
        go_wp2_with fail
        go_ret2
        exact ⟨rfl, rfl⟩
      · have hi1 : (up.length : Int) ≤ i := by omega
        clear hi
        go_enter Tryd.func10, Tryd.ntmps10
        go_wp2_with fail
        refine (roleCheck _ c up ok _ HR.out hc).mono ?_
        rw [ho]
        rintro e w' ⟨rfl, rfl⟩
        go_wp2_with fail
        go_ret2
        exact ⟨rfl, rfl⟩
    · obtain ⟨n, rfl⟩ : ∃ n : Nat, i = (n : Int) := ⟨i.toNat, by omega⟩
      have hn : n < up.length := by omega
      have e1 : allErr up n = 0 := by rw [allErr, if_pos ho, if_neg hi]
      have e2 : allV up n = allR up n := by rw [allV, if_pos e1]; rfl
      rw [e1, e2]
      have HO := Aside.mk ho
      clear e1 e2 hi hr ho
      obtain ⟨p1, p2⟩ := pw2_le (k := n) (by omega)
      have e2 : (2 : Int) ^ n = pw2 n := rfl
      have g0 : decide ((n : Int) < 0) = false := by simp
      have g1 : decide ((up.length : Int) ≤ n) = false := by simp; omega
      go_enter Tryd.func10, Tryd.ntmps10
      go_wp2_with fail
      refine (roleCheck _ c up ok _ HR.out hc).mono ?_
      rw [HO.out]
      rintro e w' ⟨rfl, rfl⟩
      go_wp2_with fail
      go_loopw [7, 8] (fun o k wr => ∃ m x : Nat, m ≤ n + 1 ∧ k = .int .i64 ((m : Int) - 1) ∧ o = .int .i64 x ∧ Aside (AllAt up n m x) ∧ w = wr) (fun _ k _ => (intOf k + 1).toNat)
      case atStart => exact ⟨n + 1, 2 ^ n, Nat.le_refl _, by go_num, by simp [pw2], ⟨.start _ _⟩, rfl⟩
      case round =>
        clear p1 p2 e2
        obtain ⟨m, x, hm, rfl, rfl, HA, rfl⟩ := hrel
        have hx := HA.out.lt HU.out (by omega)
        cases m with
        | zero =>
          have HX := Aside.mk (HA.out.eq HU.out (by omega))
          rw [show (((0 : Nat) : Int) - 1) = -1 from rfl]
          go_wp2_with fail
          go_ret2
          exact ⟨by rw [HX.out]; rfl, rfl⟩
        | succ k =>
          rw [show (((k + 1 : Nat) : Int) - 1) = (k : Int) by omega]
          have hk : k < up.length := by omega
          obtain ⟨ad, rfl, _, h1⟩ := int_at HR.out hk
          have ha := and_one (k := k) hx
          obtain ⟨u0, u1⟩ := HU.out k hk
          rw [upAt_get hk] at u0 u1
          obtain ⟨u, hu⟩ := Int.eq_ofNat_of_zero_le u0
          rw [hu] at h1 u1
          have HV := Aside.mk (show upAt up k = (u : Int) by rw [upAt_get hk, hu])
          have hp := (pw2_le (k := k) (by omega)).2
          have hu2 : (u : Int) < 256 := Int.lt_of_lt_of_le u1 hp
          have hor := or_n x u (by omega) (by omega)
          clear hu u0 u1 hp hu2
          cases hb : x.testBit k with
          | true =>
            rw [hb] at ha
            go_wp2_with fail
            exact ⟨⟨k, x ||| u, by omega, rfl, rfl, ⟨HA.out.yes HU.out hb HV.out⟩, trivial⟩, by simp [intOf]⟩
          | false =>
            rw [hb] at ha
            go_wp2_with fail
            exact ⟨⟨k, x, by omega, rfl, rfl, ⟨HA.out.no hb⟩, trivial⟩, by simp [intOf]⟩
  · have e1 : allErr up i = roleErr up := by rw [allErr, if_neg ho]
    have e2 : allV up i = 0 := by rw [allV, e1, if_neg ho]
    have hb : (roleErr up != 0) = true := by simp [ho]
    rw [e1, e2]
    clear e1 e2 ho
    go_enter Tryd.func10, Tryd.ntmps10
    go_wp2_with fail
    refine (roleCheck _ c up ok _ HR.out hc).mono ?_
    rintro e w' ⟨rfl, rfl⟩
    go_wp2_with fail
    go_ret2
    exact ⟨rfl, rfl⟩
theorem withinR (x a b : Int) (w : World) : Calls Tryd.prog 60 #[.int .i64 x, .int .i64 a, .int .i64 b] w fun e w' => e = .returned (.bool (decide (a ≤ x ∧ x ≤ b))) ∧ w = w' := by
  by_cases h0 : a ≤ x <;> by_cases h1 : x ≤ b <;>
  · go_enter Tryd.func60, Tryd.ntmps60
    go_wp2
    go_ret
    exact ⟨by simp; omega, rfl⟩
set_option maxRecDepth 100000 in
theorem refRoles (A : Option Addr) (c : Nat) (up : List Int) (ok : Nat → Prop) (w : World) (hr : int.Row w ok A up) (hc : up.length ≤ 9223372036854775807) :
    Calls Tryd.prog 13 #[.slice A up.length c] w fun e w' => e = .returned (.int .i64 (roleErr up)) ∧ w = w' := by
  have HR := Aside.mk hr
  clear hr
  by_cases h8 : 8 < up.length
  · have H := Aside.mk (show roleErr up = 2 from if_pos h8)
    go_enter Tryd.func13, Tryd.ntmps13
    go_wp2_with fail
    go_ret
    exact ⟨by rw [H.out]; rfl, rfl⟩
  · have H := Aside.mk (show roleErr up = if upOkK up up.length = true then 0 else 1 from if_neg h8)
    have g8 : decide ((8 : Int) < (up.length : Int)) = false := by simp; omega
    go_enter Tryd.func13, Tryd.ntmps13
    go_wp2_with fail
    go_loopw [3, 11] (fun p i wr => ∃ k : Nat, k ≤ up.length ∧ i = .int .i64 k ∧ p = .int .i64 (pw2 k) ∧ Aside (upOkK up k = true) ∧ w = wr) (fun _ i _ => up.length - (intOf i).toNat)
    case atStart => exact ⟨0, Nat.zero_le _, rfl, rfl, ⟨rfl⟩, rfl⟩
    case round =>
      obtain ⟨k, hk, rfl, rfl, HK, rfl⟩ := hrel
      by_cases hlt : k < up.length
      · obtain ⟨ad, rfl, _, h1⟩ := int_at HR.out hlt
        have hS := Aside.mk (upOkK_step up k)
        have hP := Aside.mk (pw2_step k)
        obtain ⟨p1, p2⟩ := pw2_le (k := k) (by omega)
        have hO : upOne up k = decide (0 ≤ up[k] ∧ up[k] ≤ pw2 k - 1) := by
          rw [upOne, upAt_get hlt, Bool.eq_iff_iff]
          unfold pw2
          simp
          omega
        cases hd : decide (0 ≤ up[k] ∧ up[k] ≤ pw2 k - 1) with
        | false =>
          have HF := Aside.mk (show upOkK up up.length = false from Bool.eq_false_iff.2 fun h => by
            have := upOkK_le h hlt
            rw [hO, hd] at this
            cases this)
          clear hO
          go_wp2_with fail
          refine (withinR _ _ _ _).mono ?_
          rw [hd]
          rintro e w' ⟨rfl, rfl⟩
          go_wp2_with fail
          go_ret
          exact ⟨by rw [H.out, HF.out]; rfl, rfl⟩
        | true =>
          have HT := Aside.mk (show upOkK up (k + 1) = true by rw [hS.out, HK.out, hO, hd]; rfl)
          clear hO
          go_wp2_with fail
          refine (withinR _ _ _ _).mono ?_
          rw [hd]
          rintro e w' ⟨rfl, rfl⟩
          go_wp2_with fail
          refine ⟨⟨k + 1, by omega, by go_num, by rw [hP.out], HT, trivial⟩, by simp [intOf]; omega⟩
      · obtain rfl : k = up.length := by omega
        go_wp2_with fail
        go_ret
        exact ⟨by rw [H.out, HK.out]; rfl, rfl⟩
set_option maxRecDepth 100000 in
theorem refComes (A : Option Addr) (c : Nat) (up : List Int) (ok : Nat → Prop) (k : Int) (h8 : up.length ≤ 8) (hu : UpOk up) : ∀ (f i : Nat) (w : World), int.Row w ok A up → i < f → i < up.length →
    Calls Tryd.prog 17 #[.slice A up.length c, .int .i64 i, .int .i64 k] w fun e w' => e = .returned (.bool (comesN up k f i)) ∧ w = w'
  | 0, _, _, _, hf, _ => absurd hf (Nat.not_lt_zero _)
  | f + 1, i, w, hr, hf, hi => by
    have HR := Aside.mk hr
    obtain ⟨u0, u1⟩ := hu i hi
    rw [upAt_get hi] at u0 u1
    have HU := Aside.mk hu
    have IH := Aside.mk (refComes A c up ok k h8 hu f)
    clear hr hu u1
    by_cases he : (i : Int) = k
    · have HE := Aside.mk (show comesN up k (f + 1) i = true by unfold comesN; rw [decide_eq_true he]; rfl)
      subst he
      go_enter Tryd.func17, Tryd.ntmps17
      go_wp2_with fail
      go_ret
      exact ⟨by rw [HE.out]; rfl, rfl⟩
    · have HE := Aside.mk (show comesN up k (f + 1) i = comesK up k f i i by unfold comesN; rw [decide_eq_false he]; rfl)
      have g : ((i : Int) == k) = false := by simp [he]
      clear he
      go_enter Tryd.func17, Tryd.ntmps17
      go_wp2_with fail
      go_loopw [12] (fun v wr => ∃ n : Nat, n ≤ i ∧ v = .int .i64 n ∧ Aside (comesK up k f i n = false) ∧ w = wr) (fun v _ => i - (intOf v).toNat)
      case atStart => exact ⟨0, Nat.zero_le _, rfl, ⟨rfl⟩, rfl⟩
      case round =>
        obtain ⟨n, hn, rfl, HK, rfl⟩ := hrel
        by_cases hlt : n < i
        · obtain ⟨ad, rfl, _, h1⟩ := int_at HR.out hi
          have hS := Aside.mk (comesK_step up k f i n)
          have hb := bit_t u0 n
          rw [upAt_get hi] at hS
          cases hx : bit up[i] n with
          | false =>
            rw [hx] at hb hS
            have HT := Aside.mk (show comesK up k f i (n + 1) = false by rw [hS.out, HK.out]; rfl)
            go_wp2_with fail
            refine ⟨⟨n + 1, by omega, by go_num, HT, trivial⟩, by simp [intOf]; omega⟩
          | true =>
            rw [hx] at hb hS
            cases hc : comesN up k f n with
            | false =>
              have HT := Aside.mk (show comesK up k f i (n + 1) = false by rw [hS.out, HK.out, hc]; rfl)
              go_wp2_with fail
              refine (IH.out n _ HR.out (by omega) (by omega)).mono ?_
              rw [hc]
              rintro e w' ⟨rfl, rfl⟩
              go_wp2_with fail
              refine ⟨⟨n + 1, by omega, by go_num, HT, trivial⟩, by simp [intOf]; omega⟩
            | true =>
              have HT := Aside.mk (show comesK up k f i i = true from comesK_hit hlt (by rw [upAt_get hi]; exact hx) hc)
              go_wp2_with fail
              refine (IH.out n _ HR.out (by omega) (by omega)).mono ?_
              rw [hc]
              rintro e w' ⟨rfl, rfl⟩
              go_wp2_with fail
              go_ret
              exact ⟨by rw [HE.out, HT.out]; rfl, rfl⟩
        · obtain rfl : n = i := by omega
          go_wp2_with fail
          go_ret
          exact ⟨by rw [HE.out, HK.out]; rfl, rfl⟩
end Go.Proofs.WK
