/-
  The law StorePuts, walked: it returns true.
-/
import Derived.Test.YtljjiicjnoljbaaDoorRefPut
import Derived.Test.YtljjiicjnoljbaaDoorSameSto
namespace Go.Proofs.WK
open Go.RowKit Rp
def recA : Rec := ⟨⟨#[97]⟩, 0, [], []⟩
theorem put_a : putErr [] recA = 0 ∧ putV [] recA = [⟨recA, false⟩] := by decide +kernel
set_option maxHeartbeats 8000000 in
set_option maxRecDepth 100000 in
theorem storePutsL (A : Option Addr) (c : Nat) (l : List Ver) (r : Rec) (A1 A2 : Option Addr) (c1 c2 : Nat) (id : ByteArray) (cats : Int) (ok ok1 ok2 : Nat → Prop) (w : World) (hwl : StoWf l) (hwf : RecWf r) (hr : verR.Row w ok A l) (hc : l.length ≤ c)
    (hf : fldR.Row w ok1 A1 r.fields) (hc1 : r.fields.length ≤ c1) (hg : str.Row w ok2 A2 r.refs) (hc2 : r.refs.length ≤ c2) :
    Calls Tryd.prog 4 #[.slice A l.length c, .agg #[.string r.id, .int .i64 r.cats, .slice A1 r.fields.length c1, .slice A2 r.refs.length c2], .string id, .int .i64 cats] w fun e w' => e = .returned (.bool true) ∧ Below w.heap.size w w' := by
  have hb1 : Below w.heap.size w (w.alloc (.cells (recC r A1 A2 c1 c2).toArray 35)) := (Below.refl _ _).alloc (Nat.le_refl _) _
  have HR := Aside.mk (hr.below hb1)
  have HF := Aside.mk (hf.below hb1)
  have HG := Aside.mk (hg.below hb1)
  have HQ := Aside.mk (Bk.made w (recC r A1 A2 c1 c2) 35)
  have HB := Aside.mk hb1
  have HWF := Aside.mk hwf
  have HWL := Aside.mk hwl
  clear hr hf hg hb1 hwf hwl
  have hstore : (storeErr l = 0) ∨ ((storeErr l != 0) = true ∧ Aside (putErr l r = storeErr l ∧ putV l r = [] ∧ cutErr l id cats = storeErr l ∧ cutV l id cats = [])) := by
    by_cases h : storeErr l = 0
    · exact .inl h
    · have e1 : putErr l r = storeErr l := if_pos h
      have e2 : cutErr l id cats = storeErr l := if_pos h
      exact .inr ⟨by simp [h], ⟨e1, by rw [putV, e1, if_neg h], e2, by rw [cutV, e2, if_neg h]⟩⟩
  rcases hstore with h1 | ⟨h1, HE⟩
  · have H1 := Aside.mk h1
    clear h1
    go_enter Tryd.func4, Tryd.ntmps4
    go_wp2_with fail
    refine (storePut _ c l r _ _ _ _ _ _ _ _ HR.out hc HF.out hc1 HG.out hc2).mono ?_
    rintro e w1 ⟨v1, rfl, s1, hb⟩
    obtain ⟨X1, d1, rfl, _, s1⟩ := s1
    have HR1 := Aside.mk (HR.out.below hb)
    have HF1 := Aside.mk (HF.out.below hb)
    have HG1 := Aside.mk (HG.out.below hb)
    have HQ1 := Aside.mk (HQ.out.below hb)
    have HS1 := Aside.mk s1
    have HB1 := Aside.mk (below_step HB.out hb)
    clear hb s1 HR HF HG HQ HB
    go_wp2_with fail
    refine (storeCut _ c l id cats _ _ HR1.out hc).mono ?_
    rintro e w2 ⟨v2, rfl, s2, hb⟩
    obtain ⟨X2, d2, rfl, _, s2⟩ := s2
    have HR2 := Aside.mk (HR1.out.below hb)
    have HF2 := Aside.mk (HF1.out.below hb)
    have HG2 := Aside.mk (HG1.out.below hb)
    have HQ2 := Aside.mk (HQ1.out.below hb)
    have HS12 := Aside.mk (HS1.out.below hb)
    have HS2 := Aside.mk s2
    have HB2 := Aside.mk (below_step HB1.out hb)
    clear hb s2 HR1 HF1 HG1 HQ1 HB1 HS1
    go_wp2_with fail
    refine (storePut none 0 [] recA none none 0 0 (fun _ => True) (fun _ => True) (fun _ => True) _ Row.nil (Nat.le_refl _) Row.nil (Nat.le_refl _) Row.nil (Nat.le_refl _)).mono ?_
    rw [put_a.1, put_a.2]
    rintro e w3 ⟨v3, rfl, s3, hb⟩
    obtain ⟨X3, d3, rfl, _, _⟩ := s3
    have HR3 := Aside.mk (HR2.out.below hb)
    have HF3 := Aside.mk (HF2.out.below hb)
    have HG3 := Aside.mk (HG2.out.below hb)
    have HQ3 := Aside.mk (HQ2.out.below hb)
    have HS13 := Aside.mk (HS12.out.below hb)
    have HS23 := Aside.mk (HS2.out.below hb)
    have HB3 := Aside.mk (below_step HB2.out hb)
    clear hb HR2 HF2 HG2 HQ2 HB2 HS12 HS2
    go_wp2_with fail
    refine (refStore _ c l _ HWL.out _ HR3.out hc).mono ?_
    rw [H1.out]
    rintro e w4 ⟨rfl, hb⟩
    have HR4 := Aside.mk (HR3.out.below hb)
    have HF4 := Aside.mk (HF3.out.below hb)
    have HG4 := Aside.mk (HG3.out.below hb)
    have q4 := (HQ3.out.below hb).four
    have HS14 := Aside.mk (HS13.out.below hb)
    have HS24 := Aside.mk (HS23.out.below hb)
    have HB4 := Aside.mk (below_step HB3.out hb)
    clear hb HR3 HF3 HG3 HQ3 HB3 HS13 HS23
    go_wp2_with fail
    refine (refPut _ c l r _ _ _ _ _ _ _ _ H1.out HWF.out HR4.out hc HF4.out hc1 HG4.out hc2).mono ?_
    rintro e w5 ⟨v5, rfl, s5, hb⟩
    obtain ⟨X5, d5, rfl, _, s5⟩ := s5
    have HR5 := Aside.mk (HR4.out.below hb)
    have HS15 := Aside.mk (HS14.out.below hb)
    have HS25 := Aside.mk (HS24.out.below hb)
    have HS5 := Aside.mk s5
    have HB5 := Aside.mk (below_step HB4.out hb)
    clear hb HR4 HF4 HG4 HB4 HS14 HS24 s5 q4
    go_wp2_with fail
    refine (refCut _ c l id cats _ _ H1.out HR5.out hc).mono ?_
    rintro e w6 ⟨v6, rfl, s6, hb⟩
    obtain ⟨X6, d6, rfl, _, s6⟩ := s6
    have HS16 := Aside.mk (HS15.out.below hb)
    have HS26 := Aside.mk (HS25.out.below hb)
    have HS56 := Aside.mk (HS5.out.below hb)
    have HS6 := Aside.mk s6
    have HB6 := Aside.mk (below_step HB5.out hb)
    clear hb HR5 HB5 HS15 HS25 s6 HS5
    generalize putV l r = pv at *
    generalize cutV l id cats = cv at *
    generalize putErr l r = pe at *
    generalize cutErr l id cats = ce at *
    go_wp2_with fail
    refine (refSameStore _ _ _ _ _ _ pv pv _ _ _ HS16.out HS56.out rfl rfl).mono ?_
    rw [decide_eq_true rfl]
    rintro e w7 ⟨rfl, hb⟩
    have HS27 := Aside.mk (HS26.out.below hb)
    have HS67 := Aside.mk (HS6.out.below hb)
    have HB7 := Aside.mk (below_step HB6.out hb)
    clear hb HS16 HS26 HS56 HS6
    go_wp2_with fail
    refine (refSameStore _ _ _ _ _ _ cv cv _ _ _ HS27.out HS67.out rfl rfl).mono ?_
    rw [decide_eq_true rfl]
    rintro e w8 ⟨rfl, hb⟩
    have HB8 := Aside.mk (below_step HB7.out hb)
    clear hb
    go_wp2_with fail
    go_ret
    exact ⟨rfl, HB8.out⟩
  · have h0 : (storeErr l == 0) = false := by simpa using h1
    go_enter Tryd.func4, Tryd.ntmps4
    go_wp2_with fail
    refine (storePut _ c l r _ _ _ _ _ _ _ _ HR.out hc HF.out hc1 HG.out hc2).mono ?_
    rw [HE.out.1, HE.out.2.1]
    rintro e w1 ⟨v1, rfl, s1, hb⟩
    obtain ⟨X1, d1, rfl, _, s1⟩ := s1
    have HR1 := Aside.mk (HR.out.below hb)
    have HF1 := Aside.mk (HF.out.below hb)
    have HG1 := Aside.mk (HG.out.below hb)
    have HQ1 := Aside.mk (HQ.out.below hb)
    have HS1 := Aside.mk s1
    have HB1 := Aside.mk (below_step HB.out hb)
    clear hb s1 HR HF HG HQ HB
    go_wp2_with fail
    refine (storeCut _ c l id cats _ _ HR1.out hc).mono ?_
    rw [HE.out.2.2.1, HE.out.2.2.2]
    rintro e w2 ⟨v2, rfl, s2, hb⟩
    obtain ⟨X2, d2, rfl, _, s2⟩ := s2
    have HR2 := Aside.mk (HR1.out.below hb)
    have HF2 := Aside.mk (HF1.out.below hb)
    have HG2 := Aside.mk (HG1.out.below hb)
    have HQ2 := Aside.mk (HQ1.out.below hb)
    have HS12 := Aside.mk (HS1.out.below hb)
    have HS2 := Aside.mk s2
    have HB2 := Aside.mk (below_step HB1.out hb)
    clear hb s2 HR1 HF1 HG1 HQ1 HB1 HS1
    go_wp2_with fail
    refine (storePut none 0 [] recA none none 0 0 (fun _ => True) (fun _ => True) (fun _ => True) _ Row.nil (Nat.le_refl _) Row.nil (Nat.le_refl _) Row.nil (Nat.le_refl _)).mono ?_
    rw [put_a.1, put_a.2]
    rintro e w3 ⟨v3, rfl, s3, hb⟩
    obtain ⟨X3, d3, rfl, _, _⟩ := s3
    have HR3 := Aside.mk (HR2.out.below hb)
    have HF3 := Aside.mk (HF2.out.below hb)
    have HG3 := Aside.mk (HG2.out.below hb)
    have HQ3 := Aside.mk (HQ2.out.below hb)
    have HS13 := Aside.mk (HS12.out.below hb)
    have HS23 := Aside.mk (HS2.out.below hb)
    have HB3 := Aside.mk (below_step HB2.out hb)
    clear hb HR2 HF2 HG2 HQ2 HB2 HS12 HS2
    go_wp2_with fail
    refine (refStore _ c l _ HWL.out _ HR3.out hc).mono ?_
    rintro e w4 ⟨rfl, hb⟩
    have HB4 := Aside.mk (below_step HB3.out hb)
    clear hb
    go_wp2_with fail
    go_ret
    exact ⟨rfl, HB4.out⟩
end Go.Proofs.WK
