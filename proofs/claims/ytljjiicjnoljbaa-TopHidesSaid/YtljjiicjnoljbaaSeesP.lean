/-
  rule.Sees, rule.May (P12, P13).
-/
import Derived.Test.YtljjiicjnoljbaaSees
namespace Go.Proofs.WK
open Go.RowKit Rp
def seesY (o : Nat) (l : List Rul) (q : Who) (k i : Nat) : Bool := (l.take k).any fun r => fitsB o r q && (r.allow && bit r.cats i)
def seesN (o : Nat) (l : List Rul) (q : Who) (k i : Nat) : Bool := (l.take k).any fun r => fitsB o r q && (!r.allow && bit r.cats i)
def yesN (o : Nat) (l : List Rul) (q : Who) (k : Nat) : Nat := sumN 8 fun i => seesY o l q k i
def noN (o : Nat) (l : List Rul) (q : Who) (k : Nat) : Nat := sumN 8 fun i => seesN o l q k i
theorem any_take {α : Type} {p : α → Bool} {l : List α} {k : Nat} (hk : k < l.length) : (l.take (k + 1)).any p = ((l.take k).any p || p l[k]) := by
  rw [List.take_succ_eq_append_getElem hk, List.any_append]; simp
theorem sees_skip {o : Nat} {l : List Rul} {q : Who} {k : Nat} (hk : k < l.length) (hf : fitsB o l[k] q = false) : yesN o l q (k + 1) = yesN o l q k ∧ noN o l q (k + 1) = noN o l q k := by
  constructor <;> refine sumN_congr fun i _ => ?_
  · unfold seesY; rw [any_take hk, hf]; simp
  · unfold seesN; rw [any_take hk, hf]; simp
theorem sees_yes {o : Nat} {l : List Rul} {q : Who} {k : Nat} (hk : k < l.length) (hf : fitsB o l[k] q = true) (ha : l[k].allow = true) (h0 : 0 ≤ l[k].cats) (h1 : l[k].cats ≤ 255) :
    bits .or .i64 (yesN o l q k : Int) l[k].cats = (yesN o l q (k + 1) : Int) ∧ noN o l q (k + 1) = noN o l q k := by
  constructor
  · unfold yesN
    rw [or_kinds _ h0 h1]
    congr 1
    refine sumN_congr fun i _ => ?_
    unfold seesY
    rw [any_take hk, hf, ha]; simp
  · refine sumN_congr fun i _ => ?_
    unfold seesN
    rw [any_take hk, hf, ha]; simp
theorem sees_no {o : Nat} {l : List Rul} {q : Who} {k : Nat} (hk : k < l.length) (hf : fitsB o l[k] q = true) (ha : l[k].allow = false) (h0 : 0 ≤ l[k].cats) (h1 : l[k].cats ≤ 255) :
    bits .or .i64 (noN o l q k : Int) l[k].cats = (noN o l q (k + 1) : Int) ∧ yesN o l q (k + 1) = yesN o l q k := by
  constructor
  · unfold noN
    rw [or_kinds _ h0 h1]
    congr 1
    refine sumN_congr fun i _ => ?_
    unfold seesN
    rw [any_take hk, hf, ha]; simp
  · refine sumN_congr fun i _ => ?_
    unfold seesY
    rw [any_take hk, hf, ha]; simp
def seesErr (up : List Int) (l : List Rul) (q : Who) : Int := if roleErr up = 0 then (if rulesErr l = 0 then (if whoOk q = true then allErr up q.role else 1) else rulesErr l) else roleErr up
def seesB (up : List Int) (l : List Rul) (q : Who) (i : Nat) : Bool := seesY (allR up q.role.toNat) l q l.length i && !seesN (allR up q.role.toNat) l q l.length i
def seesV (up : List Int) (l : List Rul) (q : Who) : Nat := if seesErr up l q = 0 then sumN 8 (seesB up l q) else 0
theorem rules_ok {l : List Rul} (h : rulesErr l = 0) : l.length ≤ 20 ∧ ∀ r ∈ l, rulErr r = 0 := by
  unfold rulesErr at h
  split at h
  · cases h
  · exact ⟨by omega, firstErr_none h⟩
theorem allR_lt (up : List Int) (i : Nat) : allR up i < 256 := sumN_lt 8 _
set_option maxHeartbeats 1600000 in
set_option maxRecDepth 100000 in
theorem ruleSees (A : Option Addr) (c : Nat) (up : List Int) (B : Option Addr) (d : Nat) (l : List Rul) (q : Who) (ok ok' : Nat → Prop) (w : World) (hr : int.Row w ok A up) (hc : up.length ≤ 9223372036854775807) (hr' : rulR.Row w ok' B l) (hc' : l.length ≤ 9223372036854775807) :
    Calls Try.prog 19 #[.slice A up.length c, .slice B l.length d, whoV q] w fun e w' => e = .returned (.tuple #[.int .i64 (seesV up l q), .int .i64 (seesErr up l q)]) ∧ Below w.heap.size w w' := by
  have hb1 : Below w.heap.size w (w.alloc (.cells (Rp.whoC q).toArray 42)) := (Below.refl _ _).alloc (Nat.le_refl _) _
  have HR := Aside.mk (hr.below hb1)
  have HL := Aside.mk (hr'.below hb1)
  have HQ := Aside.mk (Bk.made w (Rp.whoC q) 42)
  have HB := Aside.mk hb1
  clear hr hr' hb1
  by_cases h1 : roleErr up = 0
  · by_cases h2 : rulesErr l = 0
    · by_cases h3 : whoOk q = true
      · by_cases h4 : allErr up q.role = 0
        · have hR := rules_ok h2
          obtain ⟨hw1, hw2, hw3⟩ := whoOk_iff.1 h3
          have e1 : seesErr up l q = 0 := by rw [seesErr, if_pos h1, if_pos h2, if_pos h3, h4]
          have e2 : seesV up l q = sumN 8 (seesB up l q) := by rw [seesV, if_pos e1]
          have hlt : q.role < up.length := by
            unfold allErr at h4
            rw [if_pos h1] at h4
            split at h4
            · cases h4
            · omega
          have e3 : allV up q.role = allR up q.role.toNat := by rw [allV, if_pos h4]
          rw [e1, e2]
          have H1 := Aside.mk h1
          have H2 := Aside.mk h2
          have H4 := Aside.mk h4
          have H3 := Aside.mk h3
          have E3 := Aside.mk e3
          have ES := Aside.mk (show ((sumN 8 (seesB up l q) : Nat) : Int) = bits .andNot .i64 (yesN (allR up q.role.toNat) l q l.length : Int) (noN (allR up q.role.toNat) l q l.length : Int) from (andNot_kinds _ _).symm)
          have ho := allR_lt up q.role.toNat
          generalize allR up q.role.toNat = o at ho E3 ES
          obtain ⟨hR1, hR2⟩ := hR
          have HR3 := Aside.mk hR2
          clear hR2 e1 e2 e3 h1 h2 h3 h4
          go_enter Try.func19, Try.ntmps19
          go_wp2_with fail
          refine (roleCheck _ _ up _ _ HR.out hc).mono ?_
          rw [H1.out]
          rintro e w' ⟨rfl, rfl⟩
          go_wp2_with fail
          refine (ruleCheck _ _ l _ _ HL.out hc').mono ?_
          rw [H2.out]
          rintro e w2 ⟨rfl, hb⟩
          have HQ2 := Aside.mk (HQ.out.below hb)
          have HR2 := Aside.mk (HR.out.below hb)
          have HL2 := Aside.mk (HL.out.below hb)
          have q2 := HQ2.out.three
          have HB2 := Aside.mk (below_step HB.out hb)
          clear hb
          go_wp2_with fail
          refine (ruleWho q _).mono ?_
          rw [H3.out]
          rintro e w3 ⟨rfl, hb⟩
          have HQ3 := Aside.mk (HQ2.out.below hb)
          have HR4 := Aside.mk (HR2.out.below hb)
          have HL3 := Aside.mk (HL2.out.below hb)
          have HB3 := Aside.mk (below_step HB2.out hb)
          clear hb q2
          have q3 := HQ3.out.three
          go_wp2_with fail
          refine (roleAll _ _ up q.role _ _ HR4.out hc).mono ?_
          rw [H4.out, E3.out]
          rintro e w4 ⟨rfl, rfl⟩
          go_wp2_with fail
          go_loopw [12, 13, 41] (fun y n i wr => ∃ k : Nat, k ≤ l.length ∧ i = .int .i64 k ∧ y = .int .i64 (yesN o l q k) ∧ n = .int .i64 (noN o l q k) ∧ Aside (Below w3.heap.size w3 wr)) (fun _ _ i _ => l.length - (intOf i).toNat)
          case atStart => exact ⟨0, Nat.zero_le _, rfl, by simp [yesN, seesY, sumN], by simp [noN, seesN, sumN], ⟨Below.refl _ _⟩⟩
          case round =>
            clear q3
            obtain ⟨k, hk, rfl, rfl, rfl, HW⟩ := hrel
            have q3 := (HQ3.out.below HW.out).three
            by_cases hkl : k < l.length
            · obtain ⟨ad, rfl, hlt2, x0, x1, x2, x3, x4, x5⟩ := rul_at (HL3.out.below HW.out) hkl
              have hro := rul_of_ok (HR3.out l[k] (List.getElem_mem hkl))
              have hHW := Aside.mk (HW.out.alloc HW.out.size (.cells (Rp.rulC l[k]).toArray 44))
              go_wp2_with fail
              refine (ruleFits o ho l[k] q hro.2.1 _).mono ?_
              cases hf : fitsB o l[k] q with
              | false =>
                rintro e w5 ⟨rfl, hb⟩
                have HW5 := Aside.mk (below_step hHW.out hb)
                have HS := Aside.mk (sees_skip hkl hf)
                clear hb
                go_wp2_with fail
                refine ⟨⟨k + 1, by omega, by go_num, by rw [HS.out.1], by rw [HS.out.2], HW5⟩, by simp [intOf]; omega⟩
              | true =>
                rintro e w5 ⟨rfl, hb⟩
                have HW5 := Aside.mk (below_step hHW.out hb)
                have q5 := ((Bk.made _ (Rp.rulC l[k]) 44).below hb).six
                clear hb
                cases ha : l[k].allow with
                | true =>
                  obtain ⟨s1, s2⟩ := sees_yes hkl hf ha hro.2.2.2.2.2.2.1 hro.2.2.2.2.2.2.2.1
                  have HS := Aside.mk s2
                  rw [ha] at q5
                  clear s2 x5
                  go_wp2_with fail
                  refine ⟨⟨k + 1, by omega, by go_num, rfl, by rw [HS.out], HW5⟩, by simp [intOf]; omega⟩
                | false =>
                  obtain ⟨s1, s2⟩ := sees_no hkl hf ha hro.2.2.2.2.2.2.1 hro.2.2.2.2.2.2.2.1
                  have HS := Aside.mk s2
                  rw [ha] at q5
                  clear s2 x5
                  go_wp2_with fail
                  refine ⟨⟨k + 1, by omega, by go_num, by rw [HS.out], rfl, HW5⟩, by simp [intOf]; omega⟩
            · obtain rfl : k = l.length := by omega
              go_wp2_with fail
              go_ret2
              exact ⟨by rw [ES.out]; rfl, below_step HB3.out HW.out⟩
        · have e1 : seesErr up l q = allErr up q.role := by rw [seesErr, if_pos h1, if_pos h2, if_pos h3]
          have e2 : seesV up l q = 0 := by rw [seesV, e1, if_neg h4]
          have e3 : allV up q.role = 0 := if_neg h4
          have g : (allErr up q.role != 0) = true := by simp [h4]
          rw [e1, e2]
          have H1 := Aside.mk h1
          have H2 := Aside.mk h2
          have H3 := Aside.mk h3
          have E3 := Aside.mk e3
          clear e1 e2 e3 h1 h2 h3 h4
          go_enter Try.func19, Try.ntmps19
          go_wp2_with fail
          refine (roleCheck _ _ up _ _ HR.out hc).mono ?_
          rw [H1.out]
          rintro e w' ⟨rfl, rfl⟩
          go_wp2_with fail
          refine (ruleCheck _ _ l _ _ HL.out hc').mono ?_
          rw [H2.out]
          rintro e w2 ⟨rfl, hb⟩
          have HQ2 := Aside.mk (HQ.out.below hb)
          have HR2 := Aside.mk (HR.out.below hb)
          have HL2 := Aside.mk (HL.out.below hb)
          have q2 := HQ2.out.three
          have HB2 := Aside.mk (below_step HB.out hb)
          clear hb
          go_wp2_with fail
          refine (ruleWho q _).mono ?_
          rw [H3.out]
          rintro e w3 ⟨rfl, hb⟩
          have HQ3 := Aside.mk (HQ2.out.below hb)
          have HR4 := Aside.mk (HR2.out.below hb)
          have HB3 := Aside.mk (below_step HB2.out hb)
          clear hb q2
          have q3 := HQ3.out.three
          go_wp2_with fail
          refine (roleAll _ _ up q.role _ _ HR4.out hc).mono ?_
          rw [E3.out]
          rintro e w4 ⟨rfl, rfl⟩
          go_wp2_with fail
          go_ret2
          exact ⟨rfl, HB3.out⟩
      · have h3' : whoOk q = false := by simpa using h3
        have e1 : seesErr up l q = 1 := by rw [seesErr, if_pos h1, if_pos h2, if_neg h3]
        have e2 : seesV up l q = 0 := by rw [seesV, e1]; rfl
        rw [e1, e2]
        have H1 := Aside.mk h1
        have H2 := Aside.mk h2
        have H3 := Aside.mk h3'
        clear e1 e2 h1 h2 h3 h3'
        go_enter Try.func19, Try.ntmps19
        go_wp2_with fail
        refine (roleCheck _ _ up _ _ HR.out hc).mono ?_
        rw [H1.out]
        rintro e w' ⟨rfl, rfl⟩
        go_wp2_with fail
        refine (ruleCheck _ _ l _ _ HL.out hc').mono ?_
        rw [H2.out]
        rintro e w2 ⟨rfl, hb⟩
        have HQ2 := Aside.mk (HQ.out.below hb)
        have HR2 := Aside.mk (HR.out.below hb)
        have HL2 := Aside.mk (HL.out.below hb)
        have q2 := HQ2.out.three
        have HB2 := Aside.mk (below_step HB.out hb)
        clear hb
        go_wp2_with fail
        refine (ruleWho q _).mono ?_
        rw [H3.out]
        rintro e w3 ⟨rfl, hb⟩
        have HB3 := Aside.mk (below_step HB2.out hb)
        clear hb q2
        go_wp2_with fail
        go_ret2
        exact ⟨rfl, HB3.out⟩
    · have e1 : seesErr up l q = rulesErr l := by rw [seesErr, if_pos h1, if_neg h2]
      have e2 : seesV up l q = 0 := by rw [seesV, e1, if_neg h2]
      have g : (rulesErr l != 0) = true := by simp [h2]
      rw [e1, e2]
      have H1 := Aside.mk h1
      clear e1 e2 h2 h1
      go_enter Try.func19, Try.ntmps19
      go_wp2_with fail
      refine (roleCheck _ _ up _ _ HR.out hc).mono ?_
      rw [H1.out]
      rintro e w' ⟨rfl, rfl⟩
      go_wp2_with fail
      refine (ruleCheck _ _ l _ _ HL.out hc').mono ?_
      rintro e w2 ⟨rfl, hb⟩
      have HB2 := Aside.mk (below_step HB.out hb)
      clear hb
      go_wp2_with fail
      go_ret2
      exact ⟨rfl, HB2.out⟩
  · have e1 : seesErr up l q = roleErr up := by rw [seesErr, if_neg h1]
    have e2 : seesV up l q = 0 := by rw [seesV, e1, if_neg h1]
    have g : (roleErr up != 0) = true := by simp [h1]
    rw [e1, e2]
    clear e1 e2 h1
    go_enter Try.func19, Try.ntmps19
    go_wp2_with fail
    refine (roleCheck _ _ up _ _ HR.out hc).mono ?_
    rintro e w' ⟨rfl, rfl⟩
    go_wp2_with fail
    go_ret2
    exact ⟨rfl, HB.out⟩
end Go.Proofs.WK
