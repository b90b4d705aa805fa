/-
  wyref.Put, wyref.Cut (P22, P23), of a store that may be.
-/
import Derived.Test.YtljjiicjnoljbaaDoorConcat
import Derived.Test.YtljjiicjnoljbaaDoorRefSto
import Derived.Test.YtljjiicjnoljbaaDoorStoCut
namespace Go.Proofs.WK
open Go.RowKit Rp
theorem one_ver {w : World} {ok : Nat → Prop} {x : Ver} {cl : List Value} (T : TypeId) (hp : verR.K w ok x cl) : verR.Sl (w.alloc (.cells cl.toArray T)) (fun _ => True) (.slice (some ⟨w.heap.size, 0, none⟩) 1 1) [x] := by
  have h := Own.lit verR T w 0 ok (Nat.zero_le _) (xs := [x]) (inner := cl) (Reps.snoc (ps := []) (cs := []) ⟨rfl, fun j p hp => by simp at hp⟩ hp (verR.len hp)) (by simp)
  exact h.sl.mono fun _ _ _ => trivial
theorem two_parts {w : World} {ok : Nat → Prop} {va vb : Value} {l m : List Ver} (T : TypeId) (ha : verR.Sl w ok va l) (hb : verR.Sl w ok vb m) : (slice verR).Row (w.alloc (.cells #[va, vb] T)) (fun _ => True) (some ⟨w.heap.size, 0, none⟩) [l, m] := by
  have h := Own.lit (slice verR) T w 0 ok (Nat.zero_le _) (xs := [l, m]) (inner := [va, vb]) (Reps.snoc (ps := [l]) (cs := [va]) (Reps.snoc (ps := []) (cs := []) ⟨rfl, fun j p hp => by simp at hp⟩ ⟨va, rfl, ha⟩ rfl) ⟨vb, rfl, hb⟩ rfl) (by simp)
  exact h.row.2.2.mono fun _ _ _ => trivial
theorem flat_two (l : List Ver) (x : Ver) : [l, [x]].flatten = l ++ [x] := by simp
theorem sum_two (l : List Ver) (x : Ver) : sumL [l, [x]] = l.length + 1 := by simp [sumL]
set_option maxHeartbeats 4000000 in
set_option maxRecDepth 100000 in
theorem refPut (A : Option Addr) (c : Nat) (l : List Ver) (r : Rec) (A1 A2 : Option Addr) (c1 c2 : Nat) (ok ok1 ok2 : Nat → Prop) (w : World) (h1 : storeErr l = 0) (hwf : RecWf r) (hr : verR.Row w ok A l) (hc : l.length ≤ c)
    (hf : fldR.Row w ok1 A1 r.fields) (hc1 : r.fields.length ≤ c1) (hg : str.Row w ok2 A2 r.refs) (hc2 : r.refs.length ≤ c2) :
    Calls Tryd.prog 21 #[.slice A l.length c, .agg #[.string r.id, .int .i64 r.cats, .slice A1 r.fields.length c1, .slice A2 r.refs.length c2]] w fun e w' => ∃ v, e = .returned (.tuple #[v, .int .i64 (putErr l r)]) ∧
      verR.Sl w' (fun _ => True) v (putV l r) ∧ Below w.heap.size w w' := by
  have hb1 : Below w.heap.size w (w.alloc (.cells (recC r A1 A2 c1 c2).toArray 35)) := (Below.refl _ _).alloc (Nat.le_refl _) _
  have HR := Aside.mk ((hr.mono (ok' := fun _ => True) fun _ _ _ => trivial).below hb1)
  have HF := Aside.mk ((hf.mono (ok' := fun _ => True) fun _ _ _ => trivial).below hb1)
  have HG := Aside.mk ((hg.mono (ok' := fun _ => True) fun _ _ _ => trivial).below hb1)
  have HQ := Aside.mk (Bk.made w (recC r A1 A2 c1 c2) 35)
  have HB := Aside.mk hb1
  have HWF := Aside.mk hwf
  have hlen := (store_ok h1).1
  have e1 : putErr l r = if recErr r ≠ 0 then recErr r else if 20 ≤ sameN l r.cats then 2 else 0 := by rw [putErr, if_neg (by simpa using h1)]
  clear hr hf hg hb1 hwf h1
  by_cases h2 : recErr r = 0
  · have e2 : putErr l r = if 20 ≤ sameN l r.cats then 2 else 0 := by rw [e1, if_neg (by simpa using h2)]
    have H2 := Aside.mk h2
    clear e1 h2
    by_cases h3 : 20 ≤ sameN l r.cats
    · have e3 : putErr l r = 2 := by rw [e2, if_pos h3]
      have e4 : putV l r = [] := by rw [putV, e3]; rfl
      have g3 : decide ((20 : Int) ≤ ((sameN l r.cats : Nat) : Int)) = true := by simp; omega
      rw [e3, e4]
      clear e2 e3 e4 h3
      go_enter Tryd.func21, Tryd.ntmps21
      go_wp2_with fail
      refine (refRecord r _ _ _ _ _ _ HWF.out _ HF.out HG.out).mono ?_
      rw [H2.out]
      rintro e w2 ⟨rfl, hb⟩
      have q1 := (HQ.out.below hb).four
      have HR2 := Aside.mk (HR.out.below hb)
      have HB2 := Aside.mk (below_step HB.out hb)
      clear hb
      go_wp2_with fail
      refine (refSame _ _ _ l r.cats _ _ HR2.out rfl).mono ?_
      rintro e w3 ⟨rfl, hb⟩
      have HB3 := Aside.mk (below_step HB2.out hb)
      clear hb
      go_wp2_with fail
      go_ret2
      exact ⟨_, rfl, Sl.nil _ _ _, HB3.out⟩
    · have e3 : putErr l r = 0 := by rw [e2, if_neg h3]
      have e4 : putV l r = l ++ [⟨r, false⟩] := by rw [putV, if_pos e3]
      have g3 : decide ((20 : Int) ≤ ((sameN l r.cats : Nat) : Int)) = false := by simp; omega
      rw [e3, e4]
      clear e2 e3 e4 h3
      go_enter Tryd.func21, Tryd.ntmps21
      go_wp2_with fail
      refine (refRecord r _ _ _ _ _ _ HWF.out _ HF.out HG.out).mono ?_
      rw [H2.out]
      rintro e w2 ⟨rfl, hb⟩
      have q1 := (HQ.out.below hb).four
      have HF2 := Aside.mk (HF.out.below hb)
      have HG2 := Aside.mk (HG.out.below hb)
      have HQ2 := Aside.mk (HQ.out.below hb)
      have HR2 := Aside.mk (HR.out.below hb)
      have HB2 := Aside.mk (below_step HB.out hb)
      clear hb
      go_wp2_with fail
      refine (refSame _ _ _ l r.cats _ _ HR2.out rfl).mono ?_
      rintro e w3 ⟨rfl, hb⟩
      clear q1
      have q1 := (HQ2.out.below hb).four
      have HF3 := Aside.mk (HF2.out.below hb)
      have HG3 := Aside.mk (HG2.out.below hb)
      have HR3 := Aside.mk (HR2.out.below hb)
      have HB3 := Aside.mk (below_step HB2.out hb)
      clear hb
      have HX := Aside.mk (one_ver (w := w3) (x := ⟨r, false⟩) (cl := [.string r.id, .int .i64 r.cats, .slice A1 r.fields.length c1, .slice A2 r.refs.length c2, .bool false]) 62 (verK.2 ⟨_, _, rfl, Sl.of HF3.out hc1, Sl.of HG3.out hc2⟩))
      have HL := Aside.mk (two_parts 31 (Sl.of (HR3.out.below ((Below.refl _ _).alloc (Nat.le_refl _) _)) hc) HX.out)
      have HB4 := Aside.mk (HB3.out.trans ((((Below.refl w3.heap.size w3).alloc (Nat.le_refl _) (.cells #[.string r.id, .int .i64 r.cats, .slice A1 r.fields.length c1, .slice A2 r.refs.length c2, .bool false] 62)).alloc (by simp) (.cells #[.slice A l.length c, .slice (some ⟨w3.heap.size, 0, none⟩) 1 1] 31)).mono HB3.out.size))
      rw [show (w3.alloc (.cells [Value.string r.id, .int .i64 r.cats, .slice A1 r.fields.length c1, .slice A2 r.refs.length c2, .bool false].toArray 62)).heap.size = w3.heap.size + 1 from by simp] at HL
      go_wp2_with (go_at_call 68; refine (concatV _ 2 2 [l, [⟨r, false⟩]] _ _ HL.out rfl (by rw [sum_two]; omega) (by rw [sum_two]; omega) (by omega)).mono ?_; rintro e w5 ⟨v5, rfl, ho, hb⟩; have HO5 := Aside.mk ho; have HB5 := Aside.mk (below_step HB4.out hb); clear ho hb)
      go_ret2
      exact ⟨_, rfl, by rw [← flat_two]; exact HO5.out.sl.mono fun _ _ _ => trivial, HB5.out⟩
  · have e3 : putErr l r = recErr r := by rw [e1, if_pos h2]
    have e4 : putV l r = [] := by rw [putV, e3, if_neg h2]
    have g3 : (recErr r != 0) = true := by simp [h2]
    rw [e3, e4]
    clear e1 e3 e4 h2
    go_enter Tryd.func21, Tryd.ntmps21
    go_wp2_with fail
    refine (refRecord r _ _ _ _ _ _ HWF.out _ HF.out HG.out).mono ?_
    rintro e w2 ⟨rfl, hb⟩
    have HB2 := Aside.mk (below_step HB.out hb)
    clear hb
    go_wp2_with fail
    go_ret2
    exact ⟨_, rfl, Sl.nil _ _ _, HB2.out⟩
theorem lives_dec (l : List Ver) (id : ByteArray) (c : Int) : decide (livesI l id c < 0) = !livesB l id c := by
  unfold livesB
  by_cases h : livesI l id c < 0
  · rw [decide_eq_true h, decide_eq_false (by omega)]; rfl
  · rw [decide_eq_false h, decide_eq_true (by omega)]; rfl
set_option maxHeartbeats 4000000 in
set_option maxRecDepth 100000 in
theorem refCut (A : Option Addr) (c : Nat) (l : List Ver) (id : ByteArray) (cats : Int) (ok : Nat → Prop) (w : World) (h1 : storeErr l = 0) (hr : verR.Row w ok A l) (hc : l.length ≤ c) :
    Calls Tryd.prog 22 #[.slice A l.length c, .string id, .int .i64 cats] w fun e w' => ∃ v, e = .returned (.tuple #[v, .int .i64 (cutErr l id cats)]) ∧
      verR.Sl w' (fun _ => True) v (cutV l id cats) ∧ Below w.heap.size w w' := by
  have HR := Aside.mk (hr.mono (ok' := fun _ => True) fun _ _ _ => trivial)
  have hlen := (store_ok h1).1
  have hs := store_same h1 cats
  have HD := Aside.mk (lives_dec l id cats)
  clear hr
  have hd20 : decide ((20 : Int) ≤ ((sameN l cats : Nat) : Int)) = (((sameN l cats : Nat) : Int) == 20) := by
    rw [Bool.eq_iff_iff]; simp; omega
  rcases cut_ways l id cats h1 with ⟨a1, HX⟩ | ⟨⟨a1, a2⟩, HX⟩ | ⟨⟨a1, a2, a3⟩, HX⟩ | ⟨⟨a1, a2, a3, a4⟩, HX⟩ | ⟨⟨a1, a2, a3, a4⟩, HX⟩
  case inr.inr.inr.inr =>
    rw [HX.out.1, HX.out.2]
    rw [a3] at HD
    rw [a4] at hd20
    have hdl : decide (livesI l id cats < 0) = false := HD.out
    clear h1 hs a4
    go_enter Tryd.func22, Tryd.ntmps22
    go_wp2_with fail
    refine (refId id _).mono ?_
    rw [a1]
    rintro e w1 ⟨rfl, hb⟩
    have HR1 := Aside.mk (HR.out.below hb)
    have HB1 := Aside.mk hb
    clear HR hb
    go_wp2_with (go_at_call 36; refine (refCats _ _).mono ?_; rw [a2]; rintro e w' ⟨rfl, rfl⟩)
    refine (refLives _ _ _ l id cats _ _ HR1.out rfl).mono ?_
    rintro e w2 ⟨rfl, hb⟩
    have HR2 := Aside.mk (HR1.out.below hb)
    have HB2 := Aside.mk (below_step HB1.out hb)
    clear hb
    go_wp2_with fail
    refine (refSame _ _ _ l cats _ _ HR2.out rfl).mono ?_
    rintro e w3 ⟨rfl, hb⟩
    have HR3 := Aside.mk (HR2.out.below hb)
    have HB3 := Aside.mk (below_step HB2.out hb)
    clear hb
    have HX := Aside.mk (one_ver (w := w3) (ok := fun _ => True) (x := ⟨⟨id, cats, [], []⟩, true⟩) (cl := [.string id, .int .i64 cats, .slice none 0 0, .slice none 0 0, .bool true]) 62 (verK.2 ⟨_, _, rfl, Sl.nil _ _ _, Sl.nil _ _ _⟩))
    have HL := Aside.mk (two_parts 31 (Sl.of (HR3.out.below ((Below.refl _ _).alloc (Nat.le_refl _) _)) hc) HX.out)
    have HB4 := Aside.mk (HB3.out.trans ((((Below.refl w3.heap.size w3).alloc (Nat.le_refl _) (.cells #[.string id, .int .i64 cats, .slice none 0 0, .slice none 0 0, .bool true] 62)).alloc (by simp) (.cells #[.slice A l.length c, .slice (some ⟨w3.heap.size, 0, none⟩) 1 1] 31)).mono HB3.out.size))
    rw [show (w3.alloc (.cells [Value.string id, .int .i64 cats, .slice none 0 0, .slice none 0 0, .bool true].toArray 62)).heap.size = w3.heap.size + 1 from by simp] at HL
    go_wp2_with (go_at_call 68; refine (concatV _ 2 2 [l, [⟨⟨id, cats, [], []⟩, true⟩]] _ _ HL.out rfl (by rw [sum_two]; omega) (by rw [sum_two]; omega) (by omega)).mono ?_; rintro e w5 ⟨v5, rfl, ho, hb⟩; have HO5 := Aside.mk ho; have HB5 := Aside.mk (below_step HB4.out hb); clear ho hb)
    go_ret2
    exact ⟨_, rfl, by rw [← flat_two]; exact HO5.out.sl.mono fun _ _ _ => trivial, HB5.out⟩
  all_goals
    rw [HX.out.1, HX.out.2]
    try rw [a3] at HD
    try rw [a4] at hd20
    have hdl := HD.out
    clear h1 hs
    go_enter Tryd.func22, Tryd.ntmps22
    go_wp2_with fail
    refine (refId id _).mono ?_
    rw [a1]
    rintro e w1 ⟨rfl, hb⟩
    have HR1 := Aside.mk (HR.out.below hb)
    have HB1 := Aside.mk hb
    clear HR hb
    go_wp2_with (first
      | (go_at_call 36; refine (refCats _ _).mono ?_; rw [a2]; rintro e w' ⟨rfl, rfl⟩)
      | (go_at_call 67; refine (refLives _ _ _ l id cats _ _ HR1.out rfl).mono ?_; rintro e w2 ⟨rfl, hb⟩; have HR2 := Aside.mk (HR1.out.below hb); have HB1 := Aside.mk (below_step HB1.out hb); clear hb)
      | (go_at_call 66; refine (refSame _ _ _ l cats _ _ HR2.out rfl).mono ?_; rintro e w3 ⟨rfl, hb⟩; have HB1 := Aside.mk (below_step HB1.out hb); clear hb))
    go_ret2
    exact ⟨_, rfl, Sl.nil _ _ _, HB1.out⟩
end Go.Proofs.WK
