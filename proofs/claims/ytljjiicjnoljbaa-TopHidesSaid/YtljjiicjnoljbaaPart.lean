/-
  store.Part, store.Hist (P24, P26).
-/
import Derived.Test.YtljjiicjnoljbaaDelF
import Derived.Test.YtljjiicjnoljbaaPl0
import Derived.Shelf.Abstract
namespace Go.Proofs.WK
open Go.RowKit Rp
/-- P24. -/
def seenL (l : List Ver) (c : Int) : List Ver := l.filter fun v => part v.r.cats c
def partErr (l : List Ver) (c : Int) : Int := if storeErr l ≠ 0 then storeErr l else if ¬ (0 ≤ c ∧ c ≤ 255) then 1 else 0
def partV (l : List Ver) (c : Int) : List Ver := if partErr l c = 0 then seenL l c else []
/-- P26. -/
def histL (l : List Ver) (id : ByteArray) : List Ver := l.filter fun v => decide (v.r.id = id)
def histErr (l : List Ver) (id : ByteArray) : Int := if storeErr l ≠ 0 then storeErr l else if histL l id = [] then 4 else 0
def histV (l : List Ver) (id : ByteArray) : List Ver := if histErr l id = 0 then histL l id else []
def pPart (c : Int) (x : Ver) : Bool := bits .andNot .i64 x.r.cats c != 0
def pHist (id : ByteArray) (x : Ver) : Bool := !(x.r.id.toList == id.toList)
theorem keep_part {l : List Ver} {c : Int} (h : storeErr l = 0) (h0 : 0 ≤ c) (h1 : c ≤ 255) : keepL (pPart c) l = seenL l c := by
  unfold keepL seenL
  refine List.filter_congr fun v hv => ?_
  obtain ⟨_, a0, a1, _⟩ := rec_ok (store_rec h v hv)
  have := part_andNot a0 a1 h0 h1
  rw [← this]
  unfold pPart
  cases hb : (bits .andNot .i64 v.r.cats c == 0) <;> simp_all
theorem keep_hist (l : List Ver) (id : ByteArray) : keepL (pHist id) l = histL l id := by
  unfold keepL histL
  refine List.filter_congr fun v _ => ?_
  unfold pHist
  rw [toList_beq]
  simp
theorem partPred (B : Nat) (c : Int) : PredV 85 B (.int .i64 c) (pPart c) := by
  intro W x A1 A2 c1 c2 hB hu
  cases hp : pPart c x
  all_goals
    have hp2 := hp
    unfold pPart at hp2
    go_enter Try.func85, Try.ntmps85
    go_wp2_with fail
    go_ret
    exact ⟨rfl, (Below.refl _ _).alloc (Nat.le_refl _) _⟩
theorem histPred (B : Nat) (id : ByteArray) : PredV 103 B (.string id) (pHist id) := by
  intro W x A1 A2 c1 c2 hB hu
  go_enter Try.func103, Try.ntmps103
  go_wp2_with fail
  go_ret
  exact ⟨rfl, (Below.refl _ _).alloc (Nat.le_refl _) _⟩
theorem seen_small {l : List Ver} (h : storeErr l = 0) (p : Ver → Bool) : (l.filter p).length ≤ 6000 ∧ ∀ v ∈ l.filter p, v.r.fields.length ≤ 6 ∧ v.r.refs.length ≤ 4 := by
  refine ⟨Nat.le_trans (List.length_filter_le _ _) (by have := (store_ok h).1; omega), fun v hv => ?_⟩
  have := rec_ok (store_rec h v (List.mem_filter.1 hv).1)
  exact ⟨this.2.2.2.1, this.2.2.2.2.1⟩
set_option maxHeartbeats 4000000 in
set_option maxRecDepth 100000 in
theorem storePart (A : Option Addr) (c : Nat) (l : List Ver) (cats : Int) (ok : Nat → Prop) (w : World) (hr : verR.Row w ok A l) (hc : l.length ≤ c) :
    Calls Try.prog 36 #[.slice A l.length c, .int .i64 cats] w fun e w' => ∃ v, e = .returned (.tuple #[v, .int .i64 (partErr l cats)]) ∧ verR.Sl w' (fun k => w.heap.size ≤ k) v (partV l cats) ∧ Below w.heap.size w w' := by
  have hb1 : Below w.heap.size w (w.alloc (.cells #[.int .i64 cats] 3)) := (Below.refl _ _).alloc (Nat.le_refl _) _
  have HR := Aside.mk (hr.below hb1)
  have HQ := Aside.mk (Bk.made w [.int .i64 cats] 3)
  have HB := Aside.mk hb1
  clear hr hb1
  by_cases h1 : storeErr l = 0
  · have H1 := Aside.mk h1
    cases hd : decide (0 ≤ cats ∧ cats ≤ 255) with
    | false =>
      have e1 : partErr l cats = 1 := by rw [partErr, if_neg (by simpa using h1), if_pos (of_decide_eq_false hd)]
      have e2 : partV l cats = [] := by rw [partV, e1]; rfl
      rw [e1, e2]
      clear e1 e2 h1
      go_enter Try.func36, Try.ntmps36
      go_wp2_with fail
      refine (storeCheck _ c l _ _ HR.out hc).mono ?_
      rw [H1.out]
      rintro e w1 ⟨rfl, hb⟩
      have q1 : w1.cell? ⟨w.heap.size, 0, none⟩ = some (.int .i64 cats) := (HQ.out.below hb).cell 0
      have HB1 := Aside.mk (below_step HB.out hb)
      clear hb
      go_wp2_with (go_at_call 61; refine (labelCats _ _).mono ?_; rw [hd]; rintro e w' ⟨rfl, rfl⟩)
      go_ret2
      exact ⟨_, rfl, Sl.nil _ _ _, HB1.out⟩
    | true =>
      have hd2 := of_decide_eq_true hd
      have e1 : partErr l cats = 0 := by rw [partErr, if_neg (by simpa using h1), if_neg (by simpa using hd2)]
      have e2 : partV l cats = seenL l cats := by rw [partV, if_pos e1]
      have HK := Aside.mk (keep_part h1 hd2.1 hd2.2)
      have HSM := Aside.mk (seen_small h1 (fun v => part v.r.cats cats))
      have HL := Aside.mk (show l.length * 80 ≤ 140737488355328 by have := (store_ok h1).1; omega)
      have eg := Go.Proofs.enters_of (P := Try.prog) Try.func85 (by kernel_rfl) rfl
      have HP := Aside.mk (partPred w.heap.size cats)
      have HEG := Aside.mk eg
      rw [e1, e2]
      clear e1 e2 h1 hd2 eg
      go_enter Try.func36, Try.ntmps36
      go_wp2_with fail
      refine (storeCheck _ c l _ _ HR.out hc).mono ?_
      rw [H1.out]
      rintro e w1 ⟨rfl, hb⟩
      have HQ1 := Aside.mk (HQ.out.below hb)
      have q1 : w1.cell? ⟨w.heap.size, 0, none⟩ = some (.int .i64 cats) := HQ1.out.cell 0
      have HR1 := Aside.mk (HR.out.below hb)
      have HB1 := Aside.mk (below_step HB.out hb)
      clear hb HR HQ HB
      go_wp2_with (go_at_call 61; refine (labelCats _ _).mono ?_; rw [hd]; rintro e w' ⟨rfl, rfl⟩)
      refine (cloneV A c l _ _ HR1.out HL.out).mono ?_
      rintro e w2 ⟨v2, rfl, ho, hb⟩
      obtain ⟨A2, c2, rfl⟩ := Sl.form ho.sl
      have HQ2 := Aside.mk (HQ1.out.below hb)
      have HO2 := Aside.mk ho
      have HB2 := Aside.mk (below_step HB1.out hb)
      have HN : Aside (some w.heap.size ≠ (Value.slice A2 l.length c2).ownBlock) := ⟨fun e => by have := (ho.lt _ e.symm).1; have := HQ1.out.lt; omega⟩
      have HB21 := Aside.mk hb
      clear hb ho
      go_wp2_with fail
      refine (deleteF _ w.heap.size _ _ HEG.out HP.out A2 l.length c2 w1.heap.size l _ w2 HO2.out HQ2.out.lt (HQ2.out.cell 0) HN.out).mono ?_
      rw [HK.out]
      rintro e w3 ⟨v3, rfl, ho, hg⟩
      obtain ⟨A3, c3, rfl⟩ := Sl.form ho.sl
      have HO3 := Aside.mk ho
      have HB3 := Aside.mk (HB2.out.grown hg HB2.out.size (fun k hk => Nat.le_trans HB1.out.size (HO2.out.lt k hk).1))
      clear hg ho
      go_wp2_with fail
      refine (storeCopied A3 _ c3 (seenL l cats) _ _ HO3.out.row.2.2 rfl HSM.out.1 HSM.out.2).mono ?_
      rintro e w4 ⟨v4, rfl, ho, hb⟩
      have HO4 := Aside.mk ho
      have HB4 := Aside.mk (below_step HB3.out hb)
      clear hb ho
      go_wp2_with fail
      go_ret2
      exact ⟨_, rfl, (Own.sl_new HO4.out).mono fun k hk _ => Nat.le_trans HB3.out.size hk, HB4.out⟩
  · have e1 : partErr l cats = storeErr l := if_pos h1
    have e2 : partV l cats = [] := by rw [partV, e1, if_neg h1]
    have g3 : (storeErr l != 0) = true := by simp [h1]
    rw [e1, e2]
    clear e1 e2 h1
    go_enter Try.func36, Try.ntmps36
    go_wp2_with fail
    refine (storeCheck _ c l _ _ HR.out hc).mono ?_
    rintro e w1 ⟨rfl, hb⟩
    have HB1 := Aside.mk (below_step HB.out hb)
    clear hb
    go_wp2_with fail
    go_ret2
    exact ⟨_, rfl, Sl.nil _ _ _, HB1.out⟩
set_option maxHeartbeats 4000000 in
set_option maxRecDepth 100000 in
theorem storeHist (A : Option Addr) (c : Nat) (l : List Ver) (id : ByteArray) (ok : Nat → Prop) (w : World) (hr : verR.Row w ok A l) (hc : l.length ≤ c) :
    Calls Try.prog 78 #[.slice A l.length c, .string id] w fun e w' => ∃ v, e = .returned (.tuple #[v, .int .i64 (histErr l id)]) ∧ verR.Sl w' (fun k => w.heap.size ≤ k) v (histV l id) ∧ Below w.heap.size w w' := by
  have hb1 : Below w.heap.size w (w.alloc (.cells #[.string id] 9)) := (Below.refl _ _).alloc (Nat.le_refl _) _
  have HR := Aside.mk (hr.below hb1)
  have HQ := Aside.mk (Bk.made w [.string id] 9)
  have HB := Aside.mk hb1
  clear hr hb1
  by_cases h1 : storeErr l = 0
  · have H1 := Aside.mk h1
    have e0 : histErr l id = if histL l id = [] then 4 else 0 := by rw [histErr, if_neg (by simpa using h1)]
    have hways : ((((histL l id).length : Int) == 0) = true ∧ Aside (histErr l id = 4 ∧ histV l id = [])) ∨ ((((histL l id).length : Int) == 0) = false ∧ Aside (histErr l id = 0 ∧ histV l id = histL l id)) := by
      by_cases h : histL l id = []
      · rw [if_pos h] at e0
        exact .inl ⟨by rw [h]; rfl, ⟨e0, by rw [histV, e0]; rfl⟩⟩
      · rw [if_neg h] at e0
        refine .inr ⟨?_, ⟨e0, by rw [histV, if_pos e0]⟩⟩
        have : (histL l id).length ≠ 0 := fun e => h (List.eq_nil_of_length_eq_zero e)
        simp; omega
    have HK := Aside.mk (keep_hist l id)
    have HSM := Aside.mk (seen_small h1 (fun v => decide (v.r.id = id)))
    have HL := Aside.mk (show l.length * 80 ≤ 140737488355328 by have := (store_ok h1).1; omega)
    have eg := Go.Proofs.enters_of (P := Try.prog) Try.func103 (by kernel_rfl) rfl
    have HP := Aside.mk (histPred w.heap.size id)
    have HEG := Aside.mk eg
    have HWY := Aside.mk hways
    clear e0 h1 eg hways
    go_enter Try.func78, Try.ntmps78
    go_wp2_with fail
    refine (storeCheck _ c l _ _ HR.out hc).mono ?_
    rw [H1.out]
    rintro e w1 ⟨rfl, hb⟩
    have HQ1 := Aside.mk (HQ.out.below hb)
    have HR1 := Aside.mk (HR.out.below hb)
    have HB1 := Aside.mk (below_step HB.out hb)
    clear hb HR HQ HB
    go_wp2_with fail
    refine (cloneV A c l _ _ HR1.out HL.out).mono ?_
    rintro e w2 ⟨v2, rfl, ho, hb⟩
    obtain ⟨A2, c2, rfl⟩ := Sl.form ho.sl
    have HQ2 := Aside.mk (HQ1.out.below hb)
    have HO2 := Aside.mk ho
    have HB2 := Aside.mk (below_step HB1.out hb)
    have HN : Aside (some w.heap.size ≠ (Value.slice A2 l.length c2).ownBlock) := ⟨fun e => by have := (ho.lt _ e.symm).1; have := HQ1.out.lt; omega⟩
    clear hb ho
    go_wp2_with fail
    refine (deleteF _ w.heap.size _ _ HEG.out HP.out A2 l.length c2 w1.heap.size l _ w2 HO2.out HQ2.out.lt (HQ2.out.cell 0) HN.out).mono ?_
    rw [HK.out]
    rintro e w3 ⟨v3, rfl, ho, hg⟩
    obtain ⟨A3, c3, rfl⟩ := Sl.form ho.sl
    have HO3 := Aside.mk ho
    have HB3 := Aside.mk (HB2.out.grown hg HB2.out.size (fun k hk => Nat.le_trans HB1.out.size (HO2.out.lt k hk).1))
    clear hg ho
    go_wp2_with fail
    refine (storeCopied A3 _ c3 (histL l id) _ _ HO3.out.row.2.2 rfl HSM.out.1 HSM.out.2).mono ?_
    rintro e w4 ⟨v4, rfl, ho, hb⟩
    obtain ⟨A4, c4, rfl⟩ := Sl.form ho.sl
    have HO4 := Aside.mk ho
    have HB4 := Aside.mk (below_step HB3.out hb)
    clear hb ho
    rcases HWY.out with ⟨g, HX⟩ | ⟨g, HX⟩
    all_goals
      go_wp2_with fail
      go_ret2
    · exact ⟨_, by rw [HX.out.1]; rfl, by rw [HX.out.2]; exact Sl.nil _ _ _, HB4.out⟩
    · exact ⟨_, by rw [HX.out.1]; rfl, by rw [HX.out.2]; exact (Own.sl_new HO4.out).mono fun k hk _ => Nat.le_trans HB3.out.size hk, HB4.out⟩
  · have e1 : histErr l id = storeErr l := if_pos h1
    have e2 : histV l id = [] := by rw [histV, e1, if_neg h1]
    have g3 : (storeErr l != 0) = true := by simp [h1]
    rw [e1, e2]
    clear e1 e2 h1
    go_enter Try.func78, Try.ntmps78
    go_wp2_with fail
    refine (storeCheck _ c l _ _ HR.out hc).mono ?_
    rintro e w1 ⟨rfl, hb⟩
    have HB1 := Aside.mk (below_step HB.out hb)
    clear hb
    go_wp2_with fail
    go_ret2
    exact ⟨_, rfl, Sl.nil _ _ _, HB1.out⟩
end Go.Proofs.WK
