/-
  (*wyref.Group).Sure; wylaw.at, pick.
-/
import Derived.Test.YtljjiicjnoljbaaRGrpA
namespace Go.Proofs.WK
open Go.RowKit Rp
variable {w w1 : World} {G G' : Nat → Prop} {gm hm km : Nat} {g : Grp} {hs : List Value}
theorem more_step {l : List Int} {n : Nat} (hn : n < l.length) (j : Int) : moreN (l.take (n + 1)) j = moreN (l.take n) j + if j < l[n] then 1 else 0 := by
  unfold moreN
  rw [List.take_succ_eq_append_getElem hn, List.countP_append]
  by_cases h : j < l[n] <;> simp [h]
theorem more_le (l : List Int) (j : Int) : moreN l j ≤ l.length := List.countP_le_length
set_option maxHeartbeats 4000000 in
set_option maxRecDepth 100000 in
theorem refSure (h : RGrpIs w G gm g) (hg : GrpOk g) : Calls Try.prog 53 #[.pointer (some ⟨gm, 0, none⟩)] w fun e w' => e = .returned (.int .i64 (sureV g)) ∧ w = w' := by
  obtain ⟨hm, km, hs, h⟩ := h
  have q := Bk.two h.bk
  have HA := Aside.mk h
  have HS := Aside.mk (sure_is hg)
  have HAK := Aside.mk hg.ack
  have h5 := hg.many.2
  obtain ⟨S, hS⟩ : ∃ S : Nat, sureV g = (S : Int) := ⟨(sureV g).toNat, by have := HS.out.2.2; omega⟩
  rw [hS] at HS ⊢
  clear h hg hS
  go_enter Try.func53, Try.ntmps53
  go_wp2_with fail
  go_loopw [3] (fun j wr => ∃ n : Nat, n ≤ S ∧ j = .int .i64 n ∧ w = wr) (fun j _ => S - (intOf j).toNat)
  case atStart => exact ⟨0, Nat.zero_le _, rfl, rfl⟩
  case round =>
    obtain ⟨n, hn, rfl, rfl⟩ := hrel
    have n0 : (0 : Int) ≤ (n : Int) := by omega
    have n1 : (n : Int) ≤ 60 := by have := HS.out.2.2; omega
    go_wp2_with fail
    go_loopw [4, 12] (fun c i wr => ∃ k : Nat, k ≤ g.has.length ∧ i = .int .i64 k ∧ c = .int .i64 (moreN (g.ack.take k) n) ∧ w = wr) (fun _ i _ => g.has.length - (intOf i).toNat)
    case atStart => exact ⟨0, Nat.zero_le _, rfl, rfl, rfl⟩
    case round =>
      obtain ⟨k, hk, rfl, rfl, rfl⟩ := hrel
      have hle := more_le (g.ack.take k) n
      rw [List.length_take] at hle
      have c0 : (0 : Int) ≤ (moreN (g.ack.take k) n : Int) := by omega
      have c1 : (moreN (g.ack.take k) n : Int) ≤ 5 := by omega
      by_cases hlt : k < g.has.length
      · have k0 : (0 : Int) ≤ (k : Int) := by omega
        have k1 : (k : Int) < (g.has.length : Int) := by omega
        have hka : k < g.ack.length := by rw [HAK.out]; exact hlt
        have y0 := ack_at HA.out.kk hka
        rw [List.getElem?_eq_getElem hka, Option.getD_some] at y0
        have HM := Aside.mk (more_step hka n)
        by_cases hc : (n : Int) < g.ack[k]
        · rw [if_pos hc] at HM
          have g1 : decide ((n : Int) < g.ack[k]) = true := decide_eq_true hc
          generalize g.ack[k] = x at *
          clear hc
          go_wp2_with fail
          refine ⟨⟨k + 1, by omega, by go_num, by rw [HM.out]; go_num, trivial⟩, by simp [intOf]; omega⟩
        · rw [if_neg hc] at HM
          have g1 : decide ((n : Int) < g.ack[k]) = false := decide_eq_false hc
          generalize g.ack[k] = x at *
          clear hc
          go_wp2_with fail
          refine ⟨⟨k + 1, by omega, by go_num, by rw [HM.out]; go_num, trivial⟩, by simp [intOf]; omega⟩
      · obtain rfl : k = g.has.length := by omega
        have et : g.ack.take g.has.length = g.ack := by rw [← HAK.out]; exact List.take_length
        rw [et] at c0 c1 ⊢
        by_cases hc : n = S
        · subst hc
          have g1 : decide (2 * (moreN g.ack n : Int) ≤ (g.has.length : Int)) = true := decide_eq_true (by have := HS.out.2.1; rw [HAK.out] at this; omega)
          go_wp2_with fail
          go_ret
          exact ⟨rfl, rfl⟩
        · have g1 : decide (2 * (moreN g.ack n : Int) ≤ (g.has.length : Int)) = false := decide_eq_false (by have := HS.out.1 n (by omega); rw [HAK.out] at this; omega)
          go_wp2_with fail
          refine ⟨⟨n + 1, by omega, by go_num, trivial⟩, by simp [intOf]; omega⟩
set_option maxRecDepth 100000 in
theorem atC (A : Option Addr) (c : Nat) (l : List Int) (k : Nat) (ok : Nat → Prop) (w : World) (hr : int.Row w ok A l) : Calls Try.prog 41 #[.slice A l.length c, .int .i64 k] w fun e w' => e = .returned (.int .i64 (l[k]?.getD 0)) ∧ w = w' := by
  by_cases hk : k < l.length
  · obtain ⟨ad, rfl, _, x0⟩ := int_at hr hk
    have g1 : decide (k < l.length) = true := decide_eq_true hk
    have k0 : (0 : Int) ≤ (k : Int) := by omega
    have k1 : (k : Int) < (l.length : Int) := by omega
    rw [List.getElem?_eq_getElem hk, Option.getD_some]
    go_enter Try.func41, Try.ntmps41
    go_wp2_with fail
    go_ret
    exact ⟨rfl, rfl⟩
  · have g1 : decide (k < l.length) = false := decide_eq_false hk
    rw [List.getElem?_eq_none (by omega), Option.getD_none]
    go_enter Try.func41, Try.ntmps41
    go_wp2_with fail
    go_ret
    exact ⟨rfl, rfl⟩
def pickV (l : List ByteArray) (i : Int) : ByteArray := l[(withinV i l.length).toNat]?.getD ByteArray.empty
theorem pick_ix {x n : Int} (h0 : 0 < n) (h1 : n ≤ 9223372036854775807) : wrap64 ((IntKind.u64.wrap x).tmod n) = withinV x n := by
  have e : IntKind.u64.wrap x = x % 18446744073709551616 := by simp [IntKind.wrap, IntKind.bits, IntKind.signed]
  rw [e, Int.tmod_eq_emod_of_nonneg (Int.emod_nonneg _ (by omega))]
  have h := withinV_lt (x := x) h0
  show wrap64 (withinV x n) = withinV x n
  generalize withinV x n = y at *
  unfold wrap64
  omega
set_option maxRecDepth 100000 in
theorem pickC (A : Option Addr) (c : Nat) (l : List ByteArray) (i : Int) (ok : Nat → Prop) (w : World) (hr : str.Row w ok A l) : Calls Try.prog 42 #[.slice A l.length c, .int .i64 i] w fun e w' => e = .returned (.string (pickV l i)) ∧ w = w' := by
  by_cases h0 : l.length = 0
  · obtain rfl := List.length_eq_zero_iff.1 h0
    go_enter Try.func42, Try.ntmps42
    go_wp2_with fail
    go_ret
    exact ⟨rfl, rfl⟩
  · have hm := hr.1
    have hw := withinV_lt (x := i) (n := (l.length : Int)) (by omega)
    obtain ⟨j, hj⟩ : ∃ j : Nat, withinV i l.length = (j : Int) := ⟨(withinV i l.length).toNat, by omega⟩
    have hix := pick_ix (x := i) (n := (l.length : Int)) (by omega) (by omega)
    rw [hj] at hix hw
    have hi0 : 0 ≤ wrap64 ((IntKind.u64.wrap i).tmod (l.length : Int)) ∧ wrap64 ((IntKind.u64.wrap i).tmod (l.length : Int)) < (l.length : Int) := by rw [hix]; exact ⟨by omega, by omega⟩
    have hjl : j < l.length := by omega
    obtain ⟨ad, rfl, _, x0⟩ := str_at hr hjl
    have g1 : (l.length == 0) = false := beq_eq_false_iff_ne.2 h0
    have g2 : ((l.length : Int) == 0) = false := beq_eq_false_iff_ne.2 (by omega)
    have j0 : (0 : Int) ≤ (j : Int) := by omega
    have j1 : (j : Int) < (l.length : Int) := by omega
    have HE : Aside (pickV l i = l[j]) := ⟨by unfold pickV; rw [hj, Int.toNat_natCast, List.getElem?_eq_getElem hjl]; rfl⟩
    rw [HE.out]
    clear hw hj h0
    go_enter Try.func42, Try.ntmps42
    go_wp2_with fail
    go_ret
    exact ⟨rfl, rfl⟩
end Go.Proofs.WK
