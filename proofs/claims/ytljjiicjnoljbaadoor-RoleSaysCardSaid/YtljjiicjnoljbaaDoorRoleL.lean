/-
  The law RoleSays, walked: it returns true.
-/
import Derived.Test.YtljjiicjnoljbaaDoorDeepC
namespace Go.Proofs.WK
open Go.RowKit Rp
theorem one_bad : roleErr [1] = 1 := by decide
theorem lit1 (w : World) : ∃ w5, w.alloc (.cells #[.int .i64 1] 3) = w5 ∧ int.Row w5 (fun _ => True) (some ⟨w.heap.size, 0, none⟩) [1] ∧ Below w.heap.size w w5 :=
  ⟨_, rfl, ((Own.lit int 3 w 0 (fun _ => False) (Nat.zero_le _) (reps_int w _ [1]) (by decide)).row.2.2).mono fun _ _ _ => trivial, (Below.refl _ _).alloc (Nat.le_refl _) _⟩
set_option maxHeartbeats 4000000 in
set_option maxRecDepth 100000 in
theorem roleSaysL (A : Option Addr) (c : Nat) (up : List Int) (i k : Int) (ok : Nat → Prop) (w : World) (hr : int.Row w ok A up) (hc : up.length ≤ 9223372036854775807) (hT : Tab64 w) (hT1 : 1 < w.heap.size) :
    Calls Tryd.prog 3 #[.slice A up.length c, .int .i64 i, .int .i64 k] w fun e w' => e = .returned (.bool true) ∧ Below w.heap.size w w' := by
  have HR := Aside.mk hr
  have HT := Aside.mk hT
  clear hr hT
  rcases (by by_cases h : roleErr up = 0 <;> by_cases h2 : 0 ≤ i ∧ i < up.length <;> simp_all; omega : roleErr up ≠ 0 ∨ (roleErr up = 0 ∧ (i < 0 ∨ (up.length : Int) ≤ i)) ∨ (roleErr up = 0 ∧ 0 ≤ i ∧ i < up.length)) with h | ⟨h, hi⟩ | ⟨h, hi0, hi1⟩
  · have e1 : allErr up i = roleErr up := if_neg h
    have e2 : hasErr up i k = roleErr up := by rw [hasErr, e1, if_neg h]
    have e3 : hasV up i k = false := by rw [hasV, e2]; simp [h]
    have e4 : allV up i = 0 := by rw [allV, e1, if_neg h]
    have e5 : deepV up i = 0 := by rw [deepV, e1, if_neg h]
    have E := Aside.mk (And.intro e1 (And.intro e2 (And.intro e3 (And.intro e4 e5))))
    have g0 : (roleErr up == 0) = false := by simp [h]
    have g1 : (roleErr up != 0) = true := by simp [h]
    clear e1 e2 e3 e4 e5 h
    go_enter Tryd.func3, Tryd.ntmps3
    go_wp2_with fail
    refine (roleAll _ _ up i _ _ HR.out hc).mono ?_
    rw [E.out.1, E.out.2.2.2.1]
    rintro e w' ⟨rfl, rfl⟩
    go_wp2_with fail
    refine (roleHas _ _ up i k _ _ HR.out hc).mono ?_
    rw [E.out.2.1, E.out.2.2.1]
    rintro e w' ⟨rfl, rfl⟩
    go_wp2_with fail
    refine (roleDeep _ _ up i _ _ HR.out hc HT.out hT1).mono ?_
    rw [E.out.1, E.out.2.2.2.2]
    rintro e w1 ⟨rfl, hb⟩
    have HR1 := Aside.mk (HR.out.below hb)
    have HB1 := Aside.mk hb
    clear hb
    go_wp2_with fail
    refine (refRoles _ _ up _ _ HR1.out hc).mono ?_
    rintro e w' ⟨rfl, rfl⟩
    go_wp2_with fail
    refine (roleCheck _ _ up _ _ HR1.out hc).mono ?_
    rintro e w' ⟨rfl, rfl⟩
    go_wp2_with fail
    obtain ⟨w5, hW, l1, hb5⟩ := lit1 w1
    rw [hW]
    clear hW
    have HB5 := Aside.mk (below_step HB1.out hb5)
    clear hb5
    refine (roleCheck _ 1 [1] _ _ l1 (by decide)).mono ?_
    rw [one_bad]
    rintro e w' ⟨rfl, rfl⟩
    go_wp2_with fail
    go_ret
    exact ⟨rfl, HB5.out⟩
  · have e1 : allErr up i = 4 := by rw [allErr, if_pos h, if_pos hi]
    have e2 : hasErr up i k = 4 := by rw [hasErr, e1]; rfl
    have e3 : hasV up i k = false := by rw [hasV, e2]; rfl
    have e4 : allV up i = 0 := by rw [allV, e1]; rfl
    have e5 : deepV up i = 0 := by rw [deepV, e1]; rfl
    have E := Aside.mk (And.intro e1 (And.intro e2 (And.intro e3 (And.intro e4 e5))))
    have HO := Aside.mk h
    have hw : i < 0 ∨ (decide (i < 0) = false ∧ (up.length : Int) ≤ i) := by
      by_cases h0 : i < 0
      · exact .inl h0
      · exact .inr ⟨decide_eq_false h0, by omega⟩
    clear e1 e2 e3 e4 e5 h hi
    rcases hw with h | ⟨h, h'⟩
    all_goals
      go_enter Tryd.func3, Tryd.ntmps3
      go_wp2_with fail
      refine (roleAll _ _ up i _ _ HR.out hc).mono ?_
      rw [E.out.1, E.out.2.2.2.1]
      rintro e w' ⟨rfl, rfl⟩
      go_wp2_with fail
      refine (roleHas _ _ up i k _ _ HR.out hc).mono ?_
      rw [E.out.2.1, E.out.2.2.1]
      rintro e w' ⟨rfl, rfl⟩
      go_wp2_with fail
      refine (roleDeep _ _ up i _ _ HR.out hc HT.out hT1).mono ?_
      rw [E.out.1, E.out.2.2.2.2]
      rintro e w1 ⟨rfl, hb⟩
      have HR1 := Aside.mk (HR.out.below hb)
      have HB1 := Aside.mk hb
      clear hb
      go_wp2_with fail
      refine (refRoles _ _ up _ _ HR1.out hc).mono ?_
      rw [HO.out]
      rintro e w' ⟨rfl, rfl⟩
      go_wp2_with fail
      refine (roleCheck _ _ up _ _ HR1.out hc).mono ?_
      rw [HO.out]
      rintro e w' ⟨rfl, rfl⟩
      go_wp2_with fail
      obtain ⟨w5, hW, l1, hb5⟩ := lit1 w1
      rw [hW]
      clear hW
      have HB5 := Aside.mk (below_step HB1.out hb5)
      clear hb5
      refine (roleCheck _ 1 [1] _ _ l1 (by decide)).mono ?_
      rw [one_bad]
      rintro e w' ⟨rfl, rfl⟩
      go_wp2_with fail
      go_ret
      exact ⟨rfl, HB5.out⟩
  · obtain ⟨n, rfl⟩ := Int.eq_ofNat_of_zero_le hi0
    have hn : n < up.length := by omega
    obtain ⟨h8, hu⟩ := roleErr_ok h
    have HU : Aside (UpOk up) := ⟨hu⟩
    have e1 : allErr up n = 0 := by rw [allErr, if_pos h, if_neg (by omega)]
    have e4 : allV up n = allR up n := by rw [allV, if_pos e1]; rfl
    have e5 : deepV up n = deep up n := by rw [deepV, if_pos e1]; rfl
    have E := Aside.mk (And.intro e1 (And.intro e4 e5))
    have HO := Aside.mk h
    have g0 : decide ((n : Int) < 0) = false := by simp
    have g1 : decide (up.length ≤ n) = false := by simp; omega
    have hk : (k < 0 ∧ Aside (hasErr up n k = 4 ∧ hasV up n k = false)) ∨ (decide (k < 0) = false ∧ decide ((up.length : Int) ≤ k) = true ∧ Aside (hasErr up n k = 4 ∧ hasV up n k = false)) ∨ (decide (k < 0) = false ∧ decide ((up.length : Int) ≤ k) = false ∧ Aside (hasErr up n k = 0 ∧ hasV up n k = comes up n k)) := by
      by_cases h0 : k < 0
      · have e : hasErr up n k = 4 := by rw [hasErr, if_pos e1, if_pos (.inl h0)]
        exact .inl ⟨h0, ⟨e, by rw [hasV, e]; rfl⟩⟩
      · by_cases h1 : (up.length : Int) ≤ k
        · have e : hasErr up n k = 4 := by rw [hasErr, if_pos e1, if_pos (.inr h1)]
          exact .inr (.inl ⟨decide_eq_false h0, decide_eq_true h1, ⟨e, by rw [hasV, e]; rfl⟩⟩)
        · have e : hasErr up n k = 0 := by rw [hasErr, if_pos e1, if_neg (by omega)]
          exact .inr (.inr ⟨decide_eq_false h0, decide_eq_false h1, ⟨e, by rw [hasV, e]; rfl⟩⟩)
    clear e1 e4 e5 h hi0 hi1 hu
    rcases hk with ⟨h, H⟩ | ⟨h, h', H⟩ | ⟨h, h', H⟩
    all_goals
      go_enter Tryd.func3, Tryd.ntmps3
      go_wp2_with fail
      refine (roleAll _ _ up n _ _ HR.out hc).mono ?_
      rw [E.out.1, E.out.2.1]
      rintro e w' ⟨rfl, rfl⟩
      go_wp2_with fail
      refine (roleHas _ _ up n k _ _ HR.out hc).mono ?_
      rw [H.out.1, H.out.2]
      rintro e w' ⟨rfl, rfl⟩
      go_wp2_with fail
      refine (roleDeep _ _ up n _ _ HR.out hc HT.out hT1).mono ?_
      rw [E.out.1, E.out.2.2]
      rintro e w1 ⟨rfl, hb⟩
      have HR1 := Aside.mk (HR.out.below hb)
      have HB1 := Aside.mk hb
      clear hb
      go_wp2_with fail
      refine (refRoles _ _ up _ _ HR1.out hc).mono ?_
      rw [HO.out]
      rintro e w' ⟨rfl, rfl⟩
      go_wp2_with fail
      refine (roleCheck _ _ up _ _ HR1.out hc).mono ?_
      rw [HO.out]
      rintro e w' ⟨rfl, rfl⟩
      go_wp2_with fail
      obtain ⟨w5, hW, l1, hb5⟩ := lit1 w1
      rw [hW]
      clear hW
      have HB5 := Aside.mk (below_step HB1.out hb5)
      have HR5 := Aside.mk (HR1.out.below hb5)
      clear hb5
      refine (roleCheck _ 1 [1] _ _ l1 (by decide)).mono ?_
      rw [one_bad]
      rintro e w' ⟨rfl, rfl⟩
      go_wp2_with fail
      refine (refAll _ _ up n _ _ HR5.out HU.out h8 (by omega) (by omega)).mono ?_
      rintro e w' ⟨rfl, rfl⟩
      go_wp2_with fail
      refine (refDeep _ _ up _ h8 HU.out 9 n _ HR5.out (by omega) (Nat.le_refl _) hn).mono ?_
      rw [show deepN up 9 n = deep up n from rfl]
      rintro e w' ⟨rfl, rfl⟩
      go_wp2_with (go_at_call 17; refine (refComesJ _ _ up _ n k HU.out h8 _ HR5.out (by omega) (by omega)).mono ?_; rintro e w' ⟨rfl, rfl⟩)
      go_ret
      exact ⟨rfl, HB5.out⟩
end Go.Proofs.WK
