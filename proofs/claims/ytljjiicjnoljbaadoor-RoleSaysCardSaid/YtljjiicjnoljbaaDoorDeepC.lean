/-
  role.Deep (P9).
-/
import Derived.Test.YtljjiicjnoljbaaDoorDeep
import Derived.Test.YtljjiicjnoljbaaDoorBox
import Derived.StillTailTactics
namespace Go.Proofs.WK
open Go.RowKit Rp
def deepV (up : List Int) (i : Int) : Int := if allErr up i = 0 then deep up i.toNat else 0
def tabD (up : List Int) (k : Nat) (best : Int) : List Int := (List.range up.length).map fun j => if j < k then deep up j else if j = k then best else 0
theorem make_ints (n : Nat) (hn : n ≤ 8) : ∀ w : World, (Instr.makeSlice 22 (.int .i64 (n : Int)) (.int .i64 (n : Int))).run Tryd.prog w = .ok (.slice (some ⟨w.heap.size, 0, none⟩) n n) (w.alloc (.cells ((List.replicate n (Value.int .i64 0)).toArray) 3)) := by
  intro w
  obtain rfl | rfl | rfl | rfl | rfl | rfl | rfl | rfl | rfl : n = 0 ∨ n = 1 ∨ n = 2 ∨ n = 3 ∨ n = 4 ∨ n = 5 ∨ n = 6 ∨ n = 7 ∨ n = 8 := by omega
  all_goals kernel_rfl
def ints (l : List Int) : List Value := l.map (Value.int .i64)
theorem tab_at {up : List Int} {k j : Nat} {best : Int} (hj : j < up.length) : (ints (tabD up k best))[j]? = some (.int .i64 (if j < k then deep up j else if j = k then best else 0)) := by
  unfold ints tabD
  simp [hj]
theorem tab_set {up : List Int} {k : Nat} {best b2 : Int} (hk : k < up.length) : (ints (tabD up k best)).set k (.int .i64 b2) = ints (tabD up k b2) := by
  refine List.ext_getElem? fun j => ?_
  rw [List.getElem?_set]
  by_cases hj : j < up.length
  · rw [tab_at hj, tab_at hj]
    by_cases hkj : k = j
    · subst hkj; simp [ints, tabD, hk]
    · rw [if_neg hkj, if_neg (Ne.symm hkj), if_neg (Ne.symm hkj)]
  · have h1 : ∀ b, (ints (tabD up k b))[j]? = none := fun b => by
      rw [List.getElem?_eq_none_iff]; simp [ints, tabD]; omega
    rw [h1, h1]
    by_cases hkj : k = j
    · omega
    · rw [if_neg hkj]
theorem tab_next (up : List Int) (k : Nat) : tabD up k (deep up k) = tabD up (k + 1) 0 := by
  unfold tabD
  refine List.map_congr_left fun j _ => ?_
  by_cases h1 : j < k
  · rw [if_pos h1, if_pos (by omega)]
  · rw [if_neg h1]
    by_cases h2 : j = k
    · subst h2; simp
    · rw [if_neg h2, if_neg (by omega)]
      split <;> rfl
theorem tab_zero (up : List Int) : ints (tabD up 0 0) = List.replicate up.length (Value.int .i64 0) := by
  refine List.ext_getElem? fun j => ?_
  by_cases hj : j < up.length
  · rw [tab_at hj]; simp [hj]
  · rw [List.getElem?_eq_none_iff.2 (by simp [ints, tabD]; omega), List.getElem?_eq_none_iff.2 (by simp; omega)]
theorem hi_and {x : Nat} (h : x < 256) (h0 : x ≠ 0) : bits .and .i64 (x : Int) ((x : Int) - 1) = ((x &&& (x - 1) : Nat) : Int) := by
  rw [show ((x : Int) - 1) = ((x - 1 : Nat) : Int) by omega]
  exact and_n _ _ (by omega) (by omega)
set_option maxHeartbeats 4000000 in
set_option maxRecDepth 100000 in
theorem roleDeep (A : Option Addr) (c : Nat) (up : List Int) (i : Int) (ok : Nat → Prop) (w : World) (hr : int.Row w ok A up) (hc : up.length ≤ 9223372036854775807) (hT : Tab64 w) (hT1 : 1 < w.heap.size) :
    Calls Tryd.prog 12 #[.slice A up.length c, .int .i64 i] w fun e w' => e = .returned (.tuple #[.int .i64 (deepV up i), .int .i64 (allErr up i)]) ∧ Below w.heap.size w w' := by
  have HR := Aside.mk hr
  clear hr
  by_cases ho : roleErr up = 0
  · obtain ⟨h8, hu⟩ := roleErr_ok ho
    have HO := Aside.mk ho
    have HU : Aside (UpOk up) := ⟨hu⟩
    rcases (by omega : i < 0 ∨ (0 ≤ i ∧ (up.length : Int) ≤ i) ∨ (0 ≤ i ∧ i < up.length)) with h | h | h
    case inr.inr =>
      obtain ⟨n, rfl⟩ := Int.eq_ofNat_of_zero_le h.1
      have hn : n < up.length := by omega
      have e1 : allErr up n = 0 := by rw [allErr, if_pos ho, if_neg (by omega)]
      have e2 : deepV up n = deep up n := by rw [deepV, if_pos e1]; rfl
      rw [e1, e2]
      have g0 : decide ((n : Int) < 0) = false := by simp
      have g1 : decide (up.length ≤ n) = false := by simp; omega
      have hmk := make_ints up.length h8
      clear e1 e2 ho hu h
      go_enter Tryd.func12, Tryd.ntmps12
      go_wp2_with fail
      refine (roleCheck _ _ up _ _ HR.out hc).mono ?_
      rw [HO.out]
      rintro e w' ⟨rfl, rfl⟩
      go_wp2_with fail
      go_loopw [28] (fun x wr => ∃ k : Nat, k ≤ up.length ∧ x = .int .i64 k ∧ Aside (Bk wr w.heap.size (ints (tabD up k 0))) ∧ Aside (Below w.heap.size w wr)) (fun x _ => up.length - (intOf x).toNat)
      case atStart => exact ⟨0, Nat.zero_le _, rfl, ⟨by rw [tab_zero]; exact Bk.made _ _ _⟩, ⟨(Below.refl _ _).alloc (Nat.le_refl _) _⟩⟩
      case round =>
        clear hmk
        obtain ⟨k, hk, rfl, HK, HB⟩ := hrel
        by_cases hlt : k < up.length
        · obtain ⟨ad, rfl, _, h1⟩ := int_at (HR.out.below HB.out) hlt
          obtain ⟨u0, u1⟩ := HU.out k hlt
          rw [upAt_get hlt] at u0 u1
          obtain ⟨u, hu⟩ := Int.eq_ofNat_of_zero_le u0
          rw [hu] at h1 u1
          have hub : u < 256 := by
            have := (pw2_le (k := k) (by omega)).2
            unfold pw2 at this
            omega
          have HV := Aside.mk (show upAt up k = (u : Int) by rw [upAt_get hlt, hu])
          have g2 : decide ((k : Int) < (up.length : Int)) = true := by simp; omega
          clear hu u0 u1
          go_wp2_with fail
          go_loopw [9] (fun m wr => ∃ p : Nat, p ≤ k ∧ m = .int .i64 (hi u p) ∧ Aside (Bk wr w.heap.size (ints (tabD up k (deepK up 8 k p)))) ∧ Aside (Below w.heap.size w wr)) (fun m _ => (intOf m).toNat)
          case atStart => exact ⟨0, Nat.zero_le _, by rw [hi_start], HK, HB⟩
          case round =>
            clear HK HB h1
            obtain ⟨p, hp, rfl, HK, HB⟩ := hrel
            have hhl := hi_le u p
            by_cases hz : hi u p = 0
            · have HE := Aside.mk (show deepK up 8 k p = deep up k from by
                rw [deep, deepN_succ]
                exact (deepK_gap k hp fun j h2 _ => by rw [HV.out, bit_nat]; exact hi_zero hub (by omega) hz j h2).symm)
              rw [hz]
              go_wp2_with fail
              refine ⟨⟨k + 1, by omega, by go_num, ⟨by rw [← tab_next, ← HE.out]; exact HK.out⟩, HB⟩, by simp [intOf]; omega⟩
            · obtain ⟨s1, s2, s3, s4, s5⟩ := hi_step hub (by omega) hz
              have hand := hi_and (x := hi u p) (by omega) hz
              rw [s5] at hand
              have htk : tz (hi u p) < k := HU.out.edge (i := k) (by rw [HV.out, bit_nat]; exact s3)
              have HS := Aside.mk (show deepK up 8 k (tz (hi u p) + 1) = max (deepK up 8 k p) (1 + deep up (tz (hi u p))) from by
                rw [deepK_step, HV.out, bit_nat, s3, if_pos rfl, deepK_gap _ s1 fun j h2 h3 => by rw [HV.out, bit_nat]; exact s4 j h2 h3, deepN_fuel 8 9 _ s2 (by omega)]
                rfl)
              have hne : ((hi u p : Nat) : Int) ≠ 0 := by omega
              have hlt2 : hi u (tz (hi u p) + 1) < hi u p := by
                have := Nat.and_le_right (n := hi u p) (m := hi u p - 1)
                omega
              have Hc := Aside.mk (tzC (hi u p) hz (by omega))
              have c1 := (HK.out.cell k).trans (tab_at hlt)
              rw [if_neg (Nat.lt_irrefl k), if_pos rfl] at c1
              have c2 := (HK.out.cell (tz (hi u p))).trans (tab_at (by omega))
              rw [if_pos htk] at c2
              have fz := HK.out.frozen k
              have hTw : Tab64 wr := fun t ht => (HB.out.cell (p := ⟨1, ixT t, none⟩) hT1).trans (hT t ht)
              have hcall := (Hc.out wr hTw).mono fun e w' (h : e = _ ∧ wr = w') => (⟨h.1, h.2.symm⟩ : e = _ ∧ w' = wr)
              have HC := Aside.mk hcall
              obtain ⟨d0, d9⟩ := deepN_le up 9 (tz (hi u p))
              obtain ⟨d1, d8⟩ := deepK_le up 8 k p
              have wu : IntKind.u64.wrap ((hi u p : Nat) : Int) = ((hi u p : Nat) : Int) := by rw [IntKind.wrap_u64]; omega
              have ws : IntKind.i64.wrap (1 + deep up (tz (hi u p))) = 1 + deep up (tz (hi u p)) := by rw [IntKind.wrap_i64]; unfold deep; omega
              have hbb : ((hi u p : Nat) : Int) < 256 := by omega
              have htl : tz (hi u p) < up.length := by omega
              clear s1 s2 s3 s4 s5 hTw hcall hhl
              generalize hX : hi u p = X at *
              clear hX
              generalize hyy : hi u (tz X + 1) = y at *
              have HY := Aside.mk hyy
              clear hyy
              go_wp2_with fail
              have c1' : wr.drew.cell? { block := w.heap.size, off := k } = some (Value.int IntKind.i64 (deepK up 8 k p)) := c1
              have c2' : wr.drew.cell? { block := w.heap.size, off := tz X } = some (Value.int IntKind.i64 (deep up (tz X))) := c2
              have fz' : wr.drew.frozen? { block := w.heap.size, off := k } = false := fz
              have HK' : Aside (Bk wr.drew w.heap.size (ints (tabD up k (deepK up 8 k p)))) := HK
              have HB' : Aside (Below w.heap.size w wr.drew) := ⟨HB.out.drew⟩
              have HC' := Aside.mk ((Hc.out wr.drew fun t ht => (HB.out.cell (p := ⟨1, ixT t, none⟩) hT1).trans (hT t ht)).mono fun e w' (h : e = _ ∧ wr.drew = w') => (⟨h.1, h.2.symm⟩ : e = _ ∧ w' = wr.drew))
              clear c1 c2 fz HK HB HC
              refine wp_region_still_tail 15 (by kernel_rfl) (by kernel_rfl) ?_
              simp only [List.take_succ_cons, List.take_zero, List.drop_succ_cons, List.drop_zero]
              change wpStill Tryd.prog _ wr.drew (fun a' => wpList Tryd.prog _ _ _ a' wr.drew) _ _
              generalize wr.drew = w2 at *
              by_cases hmx : deepK up 8 k p < 1 + deep up (tz X)
              all_goals
                repeat still_step
                still_call HC'.out
                repeat still_step
                refine wpStill_nil ?_
                go_wp2
                refine ⟨⟨tz X + 1, by omega, ?_, ⟨?_⟩, ⟨HB'.out.setCell (Nat.le_refl _) _⟩⟩, by simp [intOf]; omega⟩
                · rw [HY.out]
                · rw [HS.out]
                  first
                  | rw [show max (deepK up 8 k p) (1 + deep up (tz X)) = 1 + deep up (tz X) by omega, ← tab_set (best := deepK up 8 k p) hlt]
                    exact HK'.out.set k _
                  | rw [show max (deepK up 8 k p) (1 + deep up (tz X)) = deepK up 8 k p by omega, ← tab_set (best := deepK up 8 k p) hlt]
                    exact HK'.out.set k _
        · obtain rfl : k = up.length := by omega
          have h2 := (HK.out.cell n).trans (tab_at hn)
          rw [if_pos hn] at h2
          go_wp2_with fail
          go_ret2
          exact ⟨rfl, HB.out⟩
    all_goals
      have e1 : allErr up i = 4 := by rw [allErr, if_pos ho, if_pos (by omega)]
      have e2 : deepV up i = 0 := by rw [deepV, e1]; rfl
      rw [e1, e2]
      clear e1 e2 ho hu
      go_enter Tryd.func12, Tryd.ntmps12
      go_wp2_with fail
      refine (roleCheck _ _ up _ _ HR.out hc).mono ?_
      rw [HO.out]
      rintro e w' ⟨rfl, rfl⟩
      go_wp2_with fail
      go_ret2
      exact ⟨rfl, Below.refl _ _⟩
  · have e1 : allErr up i = roleErr up := by rw [allErr, if_neg ho]
    have e2 : deepV up i = 0 := by rw [deepV, e1, if_neg ho]
    have g : (roleErr up != 0) = true := by simp [ho]
    rw [e1, e2]
    clear e1 e2 ho
    go_enter Tryd.func12, Tryd.ntmps12
    go_wp2_with fail
    refine (roleCheck _ _ up _ _ HR.out hc).mono ?_
    rintro e w' ⟨rfl, rfl⟩
    go_wp2_with fail
    go_ret2
    exact ⟨rfl, Below.refl _ _⟩
end Go.Proofs.WK
