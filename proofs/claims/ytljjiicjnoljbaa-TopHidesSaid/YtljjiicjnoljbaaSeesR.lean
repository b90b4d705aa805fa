/-
  wyref.Sees, and both Mays (P12, P13).
-/
import Derived.Test.YtljjiicjnoljbaaSeesP
namespace Go.Proofs.WK
open Go.RowKit Rp
theorem bit_z {n : Int} (h : 0 ≤ n) (k : Nat) : ((n / 2 ^ k).tmod 2 == 0) = !bit n k := by
  unfold bit
  rw [Int.tmod_eq_emod_of_nonneg (Int.ediv_nonneg h (Int.le_of_lt (Int.pow_pos (by decide))))]
  by_cases h1 : n / 2 ^ k % 2 = 1
  · simp [h1]
  · have : n / 2 ^ k % 2 = 0 := by omega
    simp [this]
theorem sumN_step (k : Nat) (p : Nat → Bool) : ((sumN (k + 1) p : Nat) : Int) = (sumN k p : Int) + if p k = true then pw2 k else 0 := by
  have h3 : ((2 ^ k : Nat) : Int) = pw2 k := by simp [pw2]
  simp only [sumN]
  split <;> omega
/-- What one rule says of kind i: to whom it fits. -/
def ruleB (o : Nat) (r : Rul) (q : Who) (i : Nat) : Bool := fitsB o r q && bit r.cats i
theorem seesY_step {o : Nat} {l : List Rul} {q : Who} {k i : Nat} (hk : k < l.length) : seesY o l q (k + 1) i = (seesY o l q k i || (ruleB o l[k] q i && l[k].allow)) := by
  unfold seesY ruleB
  rw [any_take hk, Bool.and_assoc, Bool.and_comm (bit _ _)]
theorem seesN_step {o : Nat} {l : List Rul} {q : Who} {k i : Nat} (hk : k < l.length) : seesN o l q (k + 1) i = (seesN o l q k i || (ruleB o l[k] q i && !l[k].allow)) := by
  unfold seesN ruleB
  rw [any_take hk, Bool.and_assoc, Bool.and_comm (bit _ _)]
theorem within_time (r : Rul) (q : Who) : decide (r.frm ≤ q.time ∧ q.time ≤ r.til - 1) = (decide (r.frm ≤ q.time) && decide (q.time < r.til)) := by
  rw [Bool.eq_iff_iff]
  simp
  omega
theorem fits_eq (o : Nat) (r : Rul) (q : Who) : fitsB o r q = (fA o r && fB r q && decide (r.frm ≤ q.time ∧ q.time ≤ r.til - 1)) := by rw [within_time, ← Bool.and_assoc]; rfl
theorem refErr {up : List Int} {q : Who} (h : roleErr up = 0) (hq : 0 ≤ q.role) : allErr up q.role = if (up.length : Int) ≤ q.role then 4 else 0 := by
  rw [allErr, if_pos h]
  by_cases h1 : (up.length : Int) ≤ q.role
  · rw [if_pos h1, if_pos (.inr h1)]
  · rw [if_neg h1, if_neg (by omega)]
theorem refComesI (A : Option Addr) (c : Nat) (up : List Int) (ok : Nat → Prop) (i k : Int) (hu : UpOk up) (h8 : up.length ≤ 8) (w : World) (hr : int.Row w ok A up) (h0 : 0 ≤ i) (hi : i < up.length) :
    Calls Try.prog 67 #[.slice A up.length c, .int .i64 i, .int .i64 k] w fun e w' => e = .returned (.bool (comes up i.toNat k)) ∧ w = w' := by
  obtain ⟨n, rfl⟩ := Int.eq_ofNat_of_zero_le h0
  exact refComes A c up ok k h8 hu 9 n w hr (by omega) (by omega)
theorem rule_ways (up : List Int) (r : Rul) (n : Nat) (hu : UpOk up) (hn : n < up.length) (h8 : up.length ≤ 8) (h0 : -1 ≤ r.role) (h7 : r.role ≤ 7) :
    ((r.role != -1) = false ∧ Aside (fA (allR up n) r = true)) ∨ ((r.role != -1) = true ∧ decide ((up.length : Int) ≤ r.role) = true ∧ Aside (fA (allR up n) r = false)) ∨
    ((r.role != -1) = true ∧ decide ((up.length : Int) ≤ r.role) = false ∧ comes up n r.role = false ∧ Aside (fA (allR up n) r = false)) ∨ ((r.role != -1) = true ∧ decide ((up.length : Int) ≤ r.role) = false ∧ comes up n r.role = true ∧ Aside (fA (allR up n) r = true)) := by
  by_cases h : r.role = -1
  · exact .inl ⟨by simp [h], ⟨by simp [fA, h]⟩⟩
  · have hne : (r.role != -1) = true := by simp [h]
    obtain ⟨m, hm⟩ : ∃ m : Nat, r.role = m := ⟨r.role.toNat, by omega⟩
    have hf : fA (allR up n) r = comes up n r.role := by
      have h1 := bit_allR up n m
      rw [bit_nat] at h1
      unfold fA
      rw [hm, decide_eq_false (by omega), Int.toNat_natCast, h1, decide_eq_true (by omega)]
      rfl
    by_cases hl : (up.length : Int) ≤ r.role
    · exact .inr (.inl ⟨hne, decide_eq_true hl, ⟨by rw [hf, hm]; exact comes_far hu (by omega) (by omega)⟩⟩)
    · cases hc : comes up n r.role
      · exact .inr (.inr (.inl ⟨hne, decide_eq_false hl, rfl, ⟨hf.trans hc⟩⟩))
      · exact .inr (.inr (.inr ⟨hne, decide_eq_false hl, rfl, ⟨hf.trans hc⟩⟩))
theorem why_ways (r : Rul) (q : Who) (h0 : -1 ≤ r.why) : ((r.why != -1) = false ∧ Aside (fB r q = true)) ∨ ((r.why != -1) = true ∧ (r.why != q.why) = true ∧ Aside (fB r q = false)) ∨ ((r.why != -1) = true ∧ (r.why != q.why) = false ∧ Aside (fB r q = true)) := by
  by_cases h : r.why = -1
  · exact .inl ⟨by simp [h], ⟨by simp [fB, h]⟩⟩
  · have hne : (r.why != -1) = true := by simp [h]
    have hd : decide (r.why < 0) = false := decide_eq_false (by omega)
    by_cases he : r.why = q.why
    · exact .inr (.inr ⟨hne, by simp [he], ⟨by rw [fB, hd]; simp [he]⟩⟩)
    · exact .inr (.inl ⟨hne, by simp [he], ⟨by rw [fB, hd]; simp [he]⟩⟩)
set_option maxHeartbeats 8000000 in
set_option maxRecDepth 100000 in
theorem refSees (A : Option Addr) (c : Nat) (up : List Int) (B : Option Addr) (d : Nat) (l : List Rul) (q : Who) (ok ok' : Nat → Prop) (w : World) (hr : int.Row w ok A up) (hc : up.length ≤ 9223372036854775807) (hr' : rulR.Row w ok' B l) (hc' : l.length ≤ 9223372036854775807) :
    Calls Try.prog 21 #[.slice A up.length c, .slice B l.length d, whoV q] w fun e w' => e = .returned (.tuple #[.int .i64 (seesV up l q), .int .i64 (seesErr up l q)]) ∧ Below w.heap.size w w' := by
  have hb1 : Below w.heap.size w (w.alloc (.cells (Rp.whoC q).toArray 42)) := (Below.refl _ _).alloc (Nat.le_refl _) _
  have HR := Aside.mk (hr.below hb1)
  have HL := Aside.mk (hr'.below hb1)
  have HQ := Aside.mk (Bk.made w (Rp.whoC q) 42)
  have HB := Aside.mk hb1
  clear hr hr' hb1
  by_cases h1 : roleErr up = 0
  · by_cases h2 : rulesErr l = 0
    · by_cases h3 : whoOk q = true
      · by_cases h4 : (up.length : Int) ≤ q.role
        · have e1 : seesErr up l q = 4 := by rw [seesErr, if_pos h1, if_pos h2, if_pos h3, refErr h1 (whoOk_iff.1 h3).1.1, if_pos h4]
          have e2 : seesV up l q = 0 := by rw [seesV, e1]; rfl
          rw [e1, e2]
          have H1 := Aside.mk h1
          have H2 := Aside.mk h2
          have H3 := Aside.mk h3
          have g := decide_eq_true h4
          clear e1 e2 h1 h2 h3
          go_enter Try.func21, Try.ntmps21
          go_wp2_with fail
          refine (refRoles _ _ up _ _ HR.out hc).mono ?_
          rw [H1.out]
          rintro e w' ⟨rfl, rfl⟩
          go_wp2_with fail
          refine (refRules _ _ l _ _ HL.out hc').mono ?_
          rw [H2.out]
          rintro e w2 ⟨rfl, hb⟩
          have HQ2 := Aside.mk (HQ.out.below hb)
          have q2 := HQ2.out.three
          have HB2 := Aside.mk (below_step HB.out hb)
          clear hb
          go_wp2_with fail
          refine (refWho q _).mono ?_
          rw [H3.out]
          rintro e w3 ⟨rfl, hb⟩
          have q3 := (HQ2.out.below hb).three
          have HB3 := Aside.mk (below_step HB2.out hb)
          clear hb q2
          go_wp2_with fail
          go_ret2
          exact ⟨rfl, HB3.out⟩
        · obtain ⟨hR1, hR2⟩ := rules_ok h2
          obtain ⟨h8, hu⟩ := roleErr_ok h1
          obtain ⟨⟨qr0, qr7⟩, ⟨qw0, qw3⟩, qt0, qt9⟩ := whoOk_iff.1 h3
          have e1 : seesErr up l q = 0 := by rw [seesErr, if_pos h1, if_pos h2, if_pos h3, refErr h1 qr0, if_neg h4]
          have e2 : seesV up l q = sumN 8 (seesB up l q) := by rw [seesV, if_pos e1]
          rw [e1, e2]
          have hlt : q.role < up.length := by omega
          have H1 := Aside.mk h1
          have H2 := Aside.mk h2
          have H3 := Aside.mk h3
          have HU := Aside.mk (show UpOk up from hu)
          have HR3 := Aside.mk hR2
          have HES : Aside (∀ i, seesB up l q i = (seesY (allR up q.role.toNat) l q l.length i && !seesN (allR up q.role.toNat) l q l.length i)) := ⟨fun _ => rfl⟩
          have HWY := Aside.mk (fun r : Rul => rule_ways up r q.role.toNat hu (by omega) h8)
          generalize allR up q.role.toNat = o at HES HWY
          have g := decide_eq_false h4
          clear e1 e2 h1 h2 h3 hR2 hu
          go_enter Try.func21, Try.ntmps21
          go_wp2_with fail
          refine (refRoles _ _ up _ _ HR.out hc).mono ?_
          rw [H1.out]
          rintro e w' ⟨rfl, rfl⟩
          go_wp2_with fail
          refine (refRules _ _ l _ _ HL.out hc').mono ?_
          rw [H2.out]
          rintro e w2 ⟨rfl, hb⟩
          have HQ2 := Aside.mk (HQ.out.below hb)
          have HR2 := Aside.mk (HR.out.below hb)
          have HL2 := Aside.mk (HL.out.below hb)
          have q2 := HQ2.out.three
          have HB2 := Aside.mk (below_step HB.out hb)
          clear hb
          go_wp2_with fail
          refine (refWho q _).mono ?_
          rw [H3.out]
          rintro e w3 ⟨rfl, hb⟩
          have HQ3 := Aside.mk (HQ2.out.below hb)
          have HR4 := Aside.mk (HR2.out.below hb)
          have HL3 := Aside.mk (HL2.out.below hb)
          have HB3 := Aside.mk (below_step HB2.out hb)
          clear hb q2
          have q3 := HQ3.out.three
          go_wp2_with fail
          go_loopw [10, 34] (fun u x wr => ∃ i : Nat, i ≤ 8 ∧ x = .int .i64 i ∧ u = .int .i64 (sumN i (seesB up l q)) ∧ Aside (Below w3.heap.size w3 wr)) (fun _ x _ => 8 - (intOf x).toNat)
          case atStart => exact ⟨0, Nat.zero_le _, rfl, rfl, ⟨Below.refl _ _⟩⟩
          case round =>
            clear q3
            obtain ⟨i, hi, rfl, rfl, HW⟩ := hrel
            by_cases hi8 : i < 8
            · have g8 : decide ((i : Int) < 8) = true := by simp; omega
              go_wp2_with fail
              rename World => wo
              go_loopw [12, 13, 39] (fun y n x wr => ∃ k : Nat, k ≤ l.length ∧ x = .int .i64 k ∧ y = .bool (seesY o l q k i) ∧ n = .bool (seesN o l q k i) ∧ Aside (Below w3.heap.size w3 wr)) (fun _ _ x _ => l.length - (intOf x).toNat)
              case atStart => exact ⟨0, Nat.zero_le _, rfl, rfl, rfl, HW⟩
              case round =>
                clear HW
                obtain ⟨k, hk, rfl, rfl, rfl, HW⟩ := hrel
                by_cases hkl : k < l.length
                · obtain ⟨ad, rfl, hlt2, x0, x1, x2, x3, x4, x5⟩ := rul_at (HL3.out.below HW.out) hkl
                  obtain ⟨ro0, ro7, ry0, ry3, rf0, rt1, rc0, rc2, rft⟩ := rul_of_ok (HR3.out l[k] (List.getElem_mem hkl))
                  have hHW := Aside.mk (HW.out.alloc HW.out.size (.cells (Rp.rulC l[k]).toArray 44))
                  have q3 := (HQ3.out.below HW.out).three
                  have g9 : decide ((k : Int) < (l.length : Int)) = true := by simp; omega
                  go_upto_region 19 with fail
                  go_cut [92] (fun b wx => b = .bool (!ruleB o l[k] q i) ∧ wx = wr.alloc (.cells (Rp.rulC l[k]).toArray 44))
                  case first =>
                    have hbz := bit_z rc0 i
                    cases hb : bit l[k].cats i with
                    | false =>
                      have HG := Aside.mk (show ruleB o l[k] q i = false by rw [ruleB, hb, Bool.and_false])
                      rw [hb] at hbz
                      go_wp2_with fail
                      go_meet
                      exact ⟨by rw [HG.out]; rfl, rfl⟩
                    | true =>
                      rw [hb] at hbz
                      have HRw : Aside (int.Row (wr.alloc (.cells #[.int .i64 l[k].role, .int .i64 l[k].why, .int .i64 l[k].frm, .int .i64 l[k].til, .int .i64 l[k].cats, .bool l[k].allow] 44)) ok A up) := ⟨(HR4.out.below HW.out).below ((Below.refl _ _).alloc (Nat.le_refl _) _)⟩
                      cases ht : decide (l[k].frm ≤ q.time ∧ q.time ≤ l[k].til - 1)
                      all_goals
                        rcases HWY.out l[k] ro0 ro7 with ⟨v1, HA⟩ | ⟨v1, v2, HA⟩ | ⟨v1, v2, v3, HA⟩ | ⟨v1, v2, v3, HA⟩
                      all_goals
                        rcases why_ways l[k] q ry0 with ⟨y1, HY⟩ | ⟨y1, y2, HY⟩ | ⟨y1, y2, HY⟩
                      all_goals
                        have HG := Aside.mk (show ruleB o l[k] q i = _ by rw [ruleB, hb, fits_eq, HA.out, HY.out, ht])
                        go_wp2_with (first | (go_at_call 67; refine (refComesI _ _ up _ q.role l[k].role HU.out h8 _ HRw.out qr0 hlt).mono ?_; (first | rw [v3] | skip); rintro e w' ⟨rfl, rfl⟩) | (go_at_call 59; refine (within _ _ _ _).mono ?_; rw [ht]; rintro e w' ⟨rfl, rfl⟩))
                        go_meet
                        exact ⟨by rw [HG.out]; rfl, rfl⟩
                  case rest =>
                    obtain ⟨rfl, rfl⟩ := hcut
                    have hY := Aside.mk (seesY_step (o := o) (q := q) (i := i) hkl)
                    have hN := Aside.mk (seesN_step (o := o) (q := q) (i := i) hkl)
                    have q5 := (Bk.made wr (Rp.rulC l[k]) 44).six
                    cases hG : ruleB o l[k] q i with
                    | false =>
                      rw [hG] at hY hN
                      go_wp2_with fail
                      refine ⟨⟨k + 1, by omega, by go_num, by rw [hY.out]; simp, by rw [hN.out]; simp, hHW⟩, by simp [intOf]; omega⟩
                    | true =>
                      rw [hG] at hY hN
                      cases hy : seesY o l q k i <;> cases hn : seesN o l q k i <;> cases ha : l[k].allow
                      all_goals
                        rw [hy, ha] at hY
                        rw [hn, ha] at hN
                        rw [ha] at q5
                        go_wp2_with fail
                        refine ⟨⟨k + 1, by omega, by go_num, by rw [hY.out]; rfl, by rw [hN.out]; rfl, hHW⟩, by simp [intOf]; omega⟩
                · obtain rfl : k = l.length := by omega
                  have hS := Aside.mk (sumN_step i (seesB up l q))
                  have hE := HES.out i
                  have hlt8 := sumN_lt i (seesB up l q)
                  have hlt9 : 2 ^ i ≤ 2 ^ 7 := Nat.pow_le_pow_right (by omega) (by omega)
                  obtain ⟨p1, p2⟩ := pw2_le (k := i) (by omega)
                  have e2 : (2 : Int) ^ i = pw2 i := rfl
                  have hs0 : sumN i (seesB up l q) < 256 := by omega
                  clear hlt8 hlt9
                  cases hy : seesY o l q l.length i <;> cases hn : seesN o l q l.length i
                  all_goals
                    rw [hy, hn] at hE
                    have HE := Aside.mk hE
                    clear hE
                    go_wp2_with fail
                    refine ⟨⟨i + 1, by omega, by go_num, by rw [hS.out, HE.out]; simp, HW⟩, by simp [intOf]; omega⟩
            · obtain rfl : i = 8 := by omega
              go_wp2_with fail
              go_ret2
              exact ⟨rfl, below_step HB3.out HW.out⟩
      · have h3' : whoOk q = false := by simpa using h3
        have e1 : seesErr up l q = 1 := by rw [seesErr, if_pos h1, if_pos h2, if_neg h3]
        have e2 : seesV up l q = 0 := by rw [seesV, e1]; rfl
        rw [e1, e2]
        have H1 := Aside.mk h1
        have H2 := Aside.mk h2
        have H3 := Aside.mk h3'
        clear e1 e2 h1 h2 h3 h3'
        go_enter Try.func21, Try.ntmps21
        go_wp2_with fail
        refine (refRoles _ _ up _ _ HR.out hc).mono ?_
        rw [H1.out]
        rintro e w' ⟨rfl, rfl⟩
        go_wp2_with fail
        refine (refRules _ _ l _ _ HL.out hc').mono ?_
        rw [H2.out]
        rintro e w2 ⟨rfl, hb⟩
        have q2 := (HQ.out.below hb).three
        have HB2 := Aside.mk (below_step HB.out hb)
        clear hb
        go_wp2_with fail
        refine (refWho q _).mono ?_
        rw [H3.out]
        rintro e w3 ⟨rfl, hb⟩
        have HB3 := Aside.mk (below_step HB2.out hb)
        clear hb q2
        go_wp2_with fail
        go_ret2
        exact ⟨rfl, HB3.out⟩
    · have e1 : seesErr up l q = rulesErr l := by rw [seesErr, if_pos h1, if_neg h2]
      have e2 : seesV up l q = 0 := by rw [seesV, e1, if_neg h2]
      have g : (rulesErr l != 0) = true := by simp [h2]
      rw [e1, e2]
      have H1 := Aside.mk h1
      clear e1 e2 h2 h1
      go_enter Try.func21, Try.ntmps21
      go_wp2_with fail
      refine (refRoles _ _ up _ _ HR.out hc).mono ?_
      rw [H1.out]
      rintro e w' ⟨rfl, rfl⟩
      go_wp2_with fail
      refine (refRules _ _ l _ _ HL.out hc').mono ?_
      rintro e w2 ⟨rfl, hb⟩
      have HB2 := Aside.mk (below_step HB.out hb)
      clear hb
      go_wp2_with fail
      go_ret2
      exact ⟨rfl, HB2.out⟩
  · have e1 : seesErr up l q = roleErr up := by rw [seesErr, if_neg h1]
    have e2 : seesV up l q = 0 := by rw [seesV, e1, if_neg h1]
    have g : (roleErr up != 0) = true := by simp [h1]
    rw [e1, e2]
    clear e1 e2 h1
    go_enter Try.func21, Try.ntmps21
    go_wp2_with fail
    refine (refRoles _ _ up _ _ HR.out hc).mono ?_
    rintro e w' ⟨rfl, rfl⟩
    go_wp2_with fail
    go_ret2
    exact ⟨rfl, HB.out⟩
end Go.Proofs.WK
