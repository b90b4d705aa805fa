/-
  role.Has, role.Deep, wyref.All, wyref.Deep (P8, P9).
-/
import Derived.Test.YtljjiicjnoljbaaDoorDeepP
import Derived.Test.YtljjiicjnoljbaaDoorRole
import Derived.Lib.LaidTab
namespace Go.Proofs.WK
open Go.RowKit Rp
def ixT (t : Nat) : Nat := 2 ^ t * 285870213051353865 % 18446744073709551616 / 288230376151711744
def Tab64 (w : World) : Prop := ∀ t, t < 8 → w.cell? ⟨1, ixT t, none⟩ = some (.int .u8 t)
set_option maxRecDepth 100000 in
theorem tz_all : ∀ u : Fin 256, u.val ≠ 0 → tz u.val < 8 ∧ (IntKind.u64.wrap (bits BinOp.and IntKind.u64 (u.val : Int) (IntKind.u64.wrap (-(u.val : Int))) * 285870213051353865) / 288230376151711744).toNat = ixT (tz u.val) ∧ 0 ≤ IntKind.u64.wrap (bits BinOp.and IntKind.u64 (u.val : Int) (IntKind.u64.wrap (-(u.val : Int))) * 285870213051353865) / 288230376151711744 ∧ IntKind.u64.wrap (bits BinOp.and IntKind.u64 (u.val : Int) (IntKind.u64.wrap (-(u.val : Int))) * 285870213051353865) / 288230376151711744 < 64 := by decide +kernel
set_option maxRecDepth 100000 in
theorem tz64 (x : Nat) (h0 : x ≠ 0) (h1 : x < 256) (w : World) (hT : Tab64 w) : Calls Tryd.prog 103 #[.int .u64 x] w fun e w' => e = .returned (.int .i64 (tz x)) ∧ w = w' := by
  have g : ((x : Int) == 0) = false := by simp [h0]
  obtain ⟨t8, ht, hlo, hup⟩ := tz_all ⟨x, h1⟩ h0
  have hb0 : 0 ≤ IntKind.u64.wrap (bits BinOp.and IntKind.u64 (x : Int) (IntKind.u64.wrap (-(x : Int))) * 285870213051353865) / 288230376151711744 := hlo
  have hb1 : IntKind.u64.wrap (bits BinOp.and IntKind.u64 (x : Int) (IntKind.u64.wrap (-(x : Int))) * 285870213051353865) / 288230376151711744 < 64 := hup
  have hc := hT _ t8
  have t8' : tz x < 8 := t8
  have ht' : (IntKind.u64.wrap (bits BinOp.and IntKind.u64 (x : Int) (IntKind.u64.wrap (-(x : Int))) * 285870213051353865) / 288230376151711744).toNat = ixT (tz x) := ht
  rw [← ht] at hc
  have hc' : w.cell? ⟨1, (IntKind.u64.wrap (bits BinOp.and IntKind.u64 (x : Int) (IntKind.u64.wrap (-(x : Int))) * 285870213051353865) / 288230376151711744).toNat, none⟩ = some (.int .u8 (tz x)) := hc
  clear hc ht ht' hT t8 hlo hup
  go_enter Tryd.func103, Tryd.ntmps103
  go_wp2_with fail
  go_ret
  exact ⟨rfl, rfl⟩
set_option maxRecDepth 100000 in
theorem tzC (x : Nat) (h0 : x ≠ 0) (h1 : x < 256) (w : World) (hT : Tab64 w) : Calls Tryd.prog 59 #[.int .u64 x] w fun e w' => e = .returned (.int .i64 (tz x)) ∧ w = w' := by
  go_enter Tryd.func59, Tryd.ntmps59
  go_wp2_with fail
  refine (tz64 x h0 h1 _ hT).mono ?_
  rintro e w' ⟨rfl, rfl⟩
  go_wp2_with fail
  go_ret
  exact ⟨rfl, rfl⟩
/-- role.Has. -/
def hasErr (up : List Int) (i k : Int) : Int := if allErr up i = 0 then (if k < 0 ∨ up.length ≤ k then 4 else 0) else allErr up i
def hasV (up : List Int) (i k : Int) : Bool := hasErr up i k == 0 && comes up i.toNat k
set_option maxHeartbeats 1600000 in
set_option maxRecDepth 100000 in
theorem roleHas (A : Option Addr) (c : Nat) (up : List Int) (i k : Int) (ok : Nat → Prop) (w : World) (hr : int.Row w ok A up) (hc : up.length ≤ 9223372036854775807) :
    Calls Tryd.prog 11 #[.slice A up.length c, .int .i64 i, .int .i64 k] w fun e w' => e = .returned (.tuple #[.bool (hasV up i k), .int .i64 (hasErr up i k)]) ∧ w = w' := by
  have HR := Aside.mk hr
  clear hr
  by_cases h1 : allErr up i = 0
  · have H1 := Aside.mk h1
    have H2 := Aside.mk (show allV up i = allR up i.toNat from if_pos h1)
    have e1 : hasErr up i k = if k < 0 ∨ up.length ≤ k then 4 else 0 := if_pos h1
    have h8 : up.length ≤ 8 := by
      unfold allErr at h1
      split at h1
      · rename_i h; exact (roleErr_ok h).1
      · rename_i h; exact absurd h1 h
    clear h1
    rcases (by omega : k < 0 ∨ (0 ≤ k ∧ (up.length : Int) ≤ k) ∨ (0 ≤ k ∧ k < up.length)) with h | h | h
    case inr.inr =>
      obtain ⟨n, rfl⟩ := Int.eq_ofNat_of_zero_le h.1
      have hn : n < up.length := by omega
      have e2 : hasErr up i n = 0 := by rw [e1, if_neg (by omega)]
      have e3 : hasV up i n = (allR up i.toNat).testBit n := by
        have hb := bit_allR up i.toNat n
        rw [bit_nat, decide_eq_true (by omega), Bool.true_and] at hb
        rw [hasV, e2, hb]
        rfl
      have ha := and_one (o := allR up i.toNat) (k := n) (sumN_lt 8 _)
      rw [e2, e3]
      have g0 : decide ((n : Int) < 0) = false := by simp
      have g1 : decide ((up.length : Int) ≤ n) = false := by simp; omega
      clear e1 e2 e3 h
      cases hb : (allR up i.toNat).testBit n
      all_goals
        rw [hb] at ha
        go_enter Tryd.func11, Tryd.ntmps11
        go_wp2_with fail
        refine (roleAll _ _ up i _ _ HR.out hc).mono ?_
        rw [H1.out, H2.out]
        rintro e w' ⟨rfl, rfl⟩
        go_wp2_with fail
        go_ret2
        exact ⟨rfl, rfl⟩
    all_goals
      have e2 : hasErr up i k = 4 := by rw [e1, if_pos (by omega)]
      have e3 : hasV up i k = false := by rw [hasV, e2]; rfl
      rw [e2, e3]
      clear e1 e2 e3
      go_enter Tryd.func11, Tryd.ntmps11
      go_wp2_with fail
      refine (roleAll _ _ up i _ _ HR.out hc).mono ?_
      rw [H1.out]
      rintro e w' ⟨rfl, rfl⟩
      go_wp2_with fail
      go_ret2
      exact ⟨rfl, rfl⟩
  · have e2 : hasErr up i k = allErr up i := if_neg h1
    have e3 : hasV up i k = false := by rw [hasV, e2]; simp [h1]
    have g : (allErr up i != 0) = true := by simp [h1]
    rw [e2, e3]
    clear e2 e3 h1
    go_enter Tryd.func11, Tryd.ntmps11
    go_wp2_with fail
    refine (roleAll _ _ up i _ _ HR.out hc).mono ?_
    rintro e w' ⟨rfl, rfl⟩
    go_wp2_with fail
    go_ret2
    exact ⟨rfl, rfl⟩
theorem sumN_ext {p : Nat → Bool} {m n : Nat} (hmn : m ≤ n) (h : ∀ i, m ≤ i → p i = false) : sumN m p = sumN n p := Nat.eq_of_testBit_eq fun j => by
  rw [testBit_sumN, testBit_sumN]
  by_cases hj : j < m
  · rw [decide_eq_true hj, decide_eq_true (by omega)]
  · rw [h j (by omega), Bool.and_false, Bool.and_false]
theorem sumN_step2 (k : Nat) (p : Nat → Bool) : ((sumN (k + 1) p : Nat) : Int) = (sumN k p : Int) + if p k = true then pw2 k else 0 := by
  have h3 : ((2 ^ k : Nat) : Int) = pw2 k := by simp [pw2]
  simp only [sumN]
  split <;> omega
theorem refComesJ (A : Option Addr) (c : Nat) (up : List Int) (ok : Nat → Prop) (i k : Int) (hu : UpOk up) (h8 : up.length ≤ 8) (w : World) (hr : int.Row w ok A up) (h0 : 0 ≤ i) (hi : i < up.length) :
    Calls Tryd.prog 17 #[.slice A up.length c, .int .i64 i, .int .i64 k] w fun e w' => e = .returned (.bool (comes up i.toNat k)) ∧ w = w' := by
  obtain ⟨n, rfl⟩ := Int.eq_ofNat_of_zero_le h0
  exact refComes A c up ok k h8 hu 9 n w hr (by omega) (by omega)
set_option maxHeartbeats 1600000 in
set_option maxRecDepth 100000 in
theorem refAll (A : Option Addr) (c : Nat) (up : List Int) (i : Int) (ok : Nat → Prop) (w : World) (hr : int.Row w ok A up) (hu : UpOk up) (h8 : up.length ≤ 8) (h0 : 0 ≤ i) (hi : i < up.length) :
    Calls Tryd.prog 15 #[.slice A up.length c, .int .i64 i] w fun e w' => e = .returned (.int .i64 (allR up i.toNat)) ∧ w = w' := by
  have HR := Aside.mk hr
  have HU := Aside.mk hu
  have HE := Aside.mk (sumN_ext (p := fun k => comes up i.toNat k) (m := up.length) (n := 8) h8 fun j hj => comes_far hu (by omega) (by omega))
  clear hr hu
  go_enter Tryd.func15, Tryd.ntmps15
  go_wp2_with fail
  go_loopw [5, 6, 10] (fun u b x wr => ∃ k : Nat, k ≤ up.length ∧ x = .int .i64 k ∧ u = .int .i64 (sumN k fun k => comes up i.toNat k) ∧ b = .int .i64 (pw2 k) ∧ w = wr) (fun _ _ x _ => up.length - (intOf x).toNat)
  case atStart => exact ⟨0, Nat.zero_le _, rfl, rfl, rfl, rfl⟩
  case round =>
    obtain ⟨k, hk, rfl, rfl, rfl, rfl⟩ := hrel
    by_cases hlt : k < up.length
    · have hS := Aside.mk (sumN_step2 k fun k => comes up i.toNat k)
      have hP := Aside.mk (pw2_step k)
      obtain ⟨p1, p2⟩ := pw2_le (k := k) (by omega)
      have hl := sumN_lt k fun k => comes up i.toNat k
      have hl2 : 2 ^ k ≤ 2 ^ 8 := Nat.pow_le_pow_right (by omega) (by omega)
      have hl3 : sumN k (fun k => comes up i.toNat k) < 256 := by omega
      clear hl hl2
      generalize hs : sumN k (fun k => comes up i.toNat k) = s at hS hl3
      have HS := Aside.mk hs
      clear hs
      cases hc : comes up i.toNat k with
      | false =>
        rw [hc] at hS
        go_wp2_with fail
        refine (refComesJ _ _ up _ i k HU.out h8 _ HR.out h0 hi).mono ?_
        rw [hc]
        rintro e w' ⟨rfl, rfl⟩
        go_wp2_with fail
        refine ⟨⟨k + 1, by omega, by go_num, by rw [hS.out]; simp, by rw [hP.out], trivial⟩, by simp [intOf]; omega⟩
      | true =>
        rw [hc] at hS
        go_wp2_with fail
        refine (refComesJ _ _ up _ i k HU.out h8 _ HR.out h0 hi).mono ?_
        rw [hc]
        rintro e w' ⟨rfl, rfl⟩
        go_wp2_with fail
        refine ⟨⟨k + 1, by omega, by go_num, by rw [hS.out]; simp, by rw [hP.out], trivial⟩, by simp [intOf]; omega⟩
    · obtain rfl : k = up.length := by omega
      go_wp2_with fail
      go_ret
      exact ⟨by rw [allR, ← HE.out]; rfl, rfl⟩
set_option maxHeartbeats 1600000 in
set_option maxRecDepth 100000 in
theorem refDeep (A : Option Addr) (c : Nat) (up : List Int) (ok : Nat → Prop) (h8 : up.length ≤ 8) (hu : UpOk up) : ∀ (f i : Nat) (w : World), int.Row w ok A up → i < f → f ≤ 9 → i < up.length →
    Calls Tryd.prog 16 #[.slice A up.length c, .int .i64 i] w fun e w' => e = .returned (.int .i64 (deepN up f i)) ∧ w = w'
  | 0, _, _, _, hf, _, _ => absurd hf (Nat.not_lt_zero _)
  | f + 1, i, w, hr, hf, h9, hi => by
    have HR := Aside.mk hr
    obtain ⟨u0, u1⟩ := hu i hi
    rw [upAt_get hi] at u0 u1
    have HU := Aside.mk hu
    have IH := Aside.mk (refDeep A c up ok h8 hu f)
    have HE := Aside.mk (deepN_succ up f i)
    clear hr hu u1
    go_enter Tryd.func16, Tryd.ntmps16
    go_wp2_with fail
    go_loopw [5, 8] (fun b v wr => ∃ n : Nat, n ≤ i ∧ v = .int .i64 n ∧ b = .int .i64 (deepK up f i n) ∧ w = wr) (fun _ v _ => i - (intOf v).toNat)
    case atStart => exact ⟨0, Nat.zero_le _, rfl, rfl, rfl⟩
    case round =>
      obtain ⟨n, hn, rfl, rfl, rfl⟩ := hrel
      by_cases hlt : n < i
      · obtain ⟨ad, rfl, _, h1⟩ := int_at HR.out hi
        have hS := Aside.mk (deepK_step up f i n)
        obtain ⟨d1, d2⟩ := deepK_le up f i n
        obtain ⟨d3, d4⟩ := deepN_le up f n
        have hb := bit_t u0 n
        rw [upAt_get hi] at hS
        cases hx : bit up[i] n with
        | false =>
          rw [hx] at hb hS
          go_wp2_with fail
          refine ⟨⟨n + 1, by omega, by go_num, by rw [hS.out]; rfl, trivial⟩, by simp [intOf]; omega⟩
        | true =>
          rw [hx] at hb hS
          go_wp2_with fail
          refine (IH.out n _ HR.out (by omega) (by omega) (by omega)).mono ?_
          rintro e w' ⟨rfl, rfl⟩
          go_wp2_with fail
          refine ⟨⟨n + 1, by omega, by go_num, by rw [hS.out]; refine congrArg (Value.int IntKind.i64) ?_; simp only [if_true]; split <;> omega, trivial⟩, by simp [intOf]; omega⟩
      · obtain rfl : n = i := by omega
        go_wp2_with fail
        go_ret
        exact ⟨by rw [HE.out]; rfl, rfl⟩
end Go.Proofs.WK
