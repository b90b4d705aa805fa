/-
  The law StoreSays, walked: it returns true. (Printed by gensays.py.)
-/
import Derived.Test.YtljjiicjnoljbaaDoorRefIds
import Derived.Test.YtljjiicjnoljbaaDoorRefSto
import Derived.Test.YtljjiicjnoljbaaDoorRefPut
import Derived.Test.YtljjiicjnoljbaaDoorSameSto
namespace Go.Proofs.WK
open Go.RowKit Rp
def verA : Ver := ⟨⟨⟨#[97]⟩, 0, [], []⟩, true⟩
theorem err_a : storeErr [verA] = 3 := by decide +kernel
theorem row_lit (w : World) : verR.Row (w.alloc (.cells #[.string ⟨#[97]⟩, .int .i64 0, .slice none 0 0, .slice none 0 0, .bool true] 62)) (fun k => True ∨ (Value.slice (some ⟨w.heap.size, 0, none⟩) 1 1).ownBlock = some k) (some ⟨w.heap.size, 0, none⟩) [verA] := by
  have hk : verR.K w (fun _ => True) verA [.string ⟨#[97]⟩, .int .i64 0, .slice none 0 0, .slice none 0 0, .bool true] := verK.2 ⟨_, _, rfl, Sl.nil _ _ _, Sl.nil _ _ _⟩
  have h0 : Reps (verR.K w (fun _ => True)) verR.sz [] [] := ⟨by simp, fun j p h => by simp at h⟩
  exact (Own.lit verR 62 w 0 (fun _ => True) (Nat.zero_le _) (h0.snoc hk rfl) (by simp)).row.2.2
abbrev Kq2 (w : World) (g : Nat) (a : ByteArray) (b : Int) (x y : Value) (pa : Addr) (a2 : ByteArray) (b2 : Int) (x2 y2 : Value) : Prop :=
  w.cell? { block := g, off := 0 } = some (.string a) ∧ w.cell? { block := g, off := 1 } = some (.int .i64 b) ∧ w.cell? { block := g, off := 2 } = some x ∧ w.cell? { block := g, off := 3 } = some y ∧
  w.cell? pa = some (.string a2) ∧ w.cell? ⟨pa.block, pa.off + 1, none⟩ = some (.int .i64 b2) ∧ w.cell? ⟨pa.block, pa.off + 2, none⟩ = some x2 ∧ w.cell? ⟨pa.block, pa.off + 3, none⟩ = some y2
theorem Kq2.step {w w' : World} {g : Nat} {a : ByteArray} {b : Int} {x y : Value} {pa : Addr} {a2 : ByteArray} {b2 : Int} {x2 y2 : Value} (h : Kq2 w g a b x y pa a2 b2 x2 y2) (hb : Below w.heap.size w w') : Kq2 w' g a b x y pa a2 b2 x2 y2 :=
  ⟨cell_below hb h.1, cell_below hb h.2.1, cell_below hb h.2.2.1, cell_below hb h.2.2.2.1, cell_below hb h.2.2.2.2.1, cell_below hb h.2.2.2.2.2.1, cell_below hb h.2.2.2.2.2.2.1, cell_below hb h.2.2.2.2.2.2.2⟩
theorem rec_nil {gr : Rec} (h : gr = noRec) : recEq gr noRec = true := by rw [h]; decide +kernel
/-- The ways, told ahead. -/
theorem cats_ways (l : List Ver) (cats : Int) (h : storeErr l = 0) : (decide (0 ≤ cats ∧ cats ≤ 255) = false ∧ Aside (partErr l cats = 1 ∧ partV l cats = [])) ∨ ((decide (0 ≤ cats ∧ cats ≤ 255) = true ∧ 0 ≤ cats) ∧ Aside (partErr l cats = 0 ∧ partV l cats = seenL l cats)) := by
  by_cases hd : 0 ≤ cats ∧ cats ≤ 255
  · have e1 : partErr l cats = 0 := by rw [partErr, if_neg (by simpa using h), if_neg (by simpa using hd)]
    exact .inr ⟨⟨decide_eq_true hd, hd.1⟩, ⟨e1, by rw [partV, if_pos e1]⟩⟩
  · have e1 : partErr l cats = 1 := by rw [partErr, if_neg (by simpa using h), if_pos hd]
    exact .inl ⟨decide_eq_false hd, ⟨e1, by rw [partV, e1]; rfl⟩⟩
theorem hist_ways (l : List Ver) (id : ByteArray) (h : storeErr l = 0) : Aside ((histErr l id = 4 ∧ histV l id = []) ∧ histL l id = []) ∨ ((((histL l id).length : Nat) : Int) == 0) = false ∧ Aside (histErr l id = 0 ∧ histV l id = histL l id) := by
  by_cases hd : histL l id = []
  · have e1 : histErr l id = 4 := by rw [histErr, if_neg (by simpa using h), if_pos hd]
    exact .inl ⟨⟨e1, by rw [histV, e1]; rfl⟩, hd⟩
  · have e1 : histErr l id = 0 := by rw [histErr, if_neg (by simpa using h), if_neg hd]
    exact .inr ⟨by simp [hd], ⟨e1, by rw [histV, if_pos e1]⟩⟩
theorem get_ways (l : List Ver) (id : ByteArray) (h : storeErr l = 0) : Aside (getErr l id = 4 ∧ (Aside (getI l id = -1) ∧ Aside (recEq (getR l id) noRec = true))) ∨ Aside (getErr l id = 0 ∧ ∃ j, ∃ h : j < l.length, Aside (getI l id = (j : Int)) ∧ Aside (recEq (getR l id) l[j].r = true)) := by
  have hb := getI_lt l id
  by_cases hg : getI l id = -1
  · obtain ⟨e1, e2⟩ := get_none h hg
    exact .inl ⟨e1, ⟨hg⟩, ⟨rec_nil e2⟩⟩
  · obtain ⟨j, hj⟩ := Int.eq_ofNat_of_zero_le (show 0 ≤ getI l id by omega)
    have hl : j < l.length := by omega
    obtain ⟨e1, e2⟩ := get_hit h hl hj
    exact .inr ⟨e1, j, hl, ⟨hj⟩, ⟨recEq_iff.2 e2⟩⟩
set_option maxHeartbeats 8000000 in
set_option maxRecDepth 100000 in
theorem storeSays_bad (A : Option Addr) (c : Nat) (l : List Ver) (cats : Int) (id : ByteArray) (ok : Nat → Prop) (w : World) (hwl : StoWf l) (hr : verR.Row w ok A l) (hc : l.length ≤ c) (h0 : (storeErr l != 0) = true) :
    Calls Tryd.prog 6 #[.slice A l.length c, .int .i64 cats, .string id] w fun e w' => e = .returned (.bool true) ∧ Below w.heap.size w w' := by
  have HR0 := Aside.mk hr
  have HB0 := Aside.mk (Below.refl w.heap.size w)
  have HWL := Aside.mk hwl
  clear hr hwl
  obtain ⟨gr, hgr⟩ : ∃ gr, getR l id = gr := ⟨_, rfl⟩
  have HGR := Aside.mk hgr
  clear hgr
  have hbad : ¬ storeErr l = 0 := by simpa using h0
  have h00 : (storeErr l == 0) = false := by simpa using h0
  have HE1 := Aside.mk (show partErr l cats = storeErr l from if_pos hbad)
  have HE2 := Aside.mk (show partV l cats = [] by rw [partV, HE1.out, if_neg hbad])
  have HE3 := Aside.mk (show getErr l id = storeErr l from if_pos hbad)
  have HX := Aside.mk (show recEq gr noRec = true from rec_nil (by rw [← HGR.out, getR, HE3.out, if_neg hbad]))
  have HE4 := Aside.mk (show histErr l id = storeErr l from if_pos hbad)
  have HE5 := Aside.mk (show histV l id = [] by rw [histV, HE4.out, if_neg hbad])
  have HE6 := Aside.mk (show idsV l = [] from if_neg hbad)
  clear hbad
  go_enter Tryd.func6, Tryd.ntmps6
  go_wp2_with fail
  refine (storePart _ c l cats _ _ HR0.out hc).mono ?_
  rw [HE1.out, HE2.out]
  rintro e w1 ⟨v1, rfl, s1, hb⟩
  obtain ⟨X1, d1, rfl, _, s1⟩ := s1
  have HR1 := Aside.mk (HR0.out.below hb)
  have HB1 := Aside.mk (below_step HB0.out hb)
  clear hb HR0 HB0
  have HP1 := Aside.mk s1
  clear s1
  go_wp2_with fail
  refine (storeGet _ c l id _ _ HR1.out hc).mono ?_
  rw [HE3.out, HGR.out]
  rintro e w2 ⟨v2, v3, rfl, s2, s3, hb⟩
  obtain ⟨X2, d2, rfl, _, s2⟩ := s2
  obtain ⟨X3, d3, rfl, _, s3⟩ := s3
  have HR2 := Aside.mk (HR1.out.below hb)
  have HB2 := Aside.mk (below_step HB1.out hb)
  have HP2 := Aside.mk (HP1.out.below hb)
  clear hb HR1 HB1 HP1
  have HF2 := Aside.mk s2
  have HG2 := Aside.mk s3
  have hb : Below w2.heap.size w2 (w2.alloc (.cells #[.string gr.id, .int .i64 gr.cats, .slice X2 gr.fields.length d2, .slice X3 gr.refs.length d3] 35)) := (Below.refl _ _).alloc (Nat.le_refl _) _
  have HR2a := Aside.mk (HR2.out.below hb)
  have HB2a := Aside.mk (below_step HB2.out hb)
  have HP2a := Aside.mk (HP2.out.below hb)
  have HF2a := Aside.mk (HF2.out.below hb)
  have HG2a := Aside.mk (HG2.out.below hb)
  clear hb HR2 HB2 HP2 HF2 HG2
  have HQ2a := Aside.mk (Bk.made w2 [.string gr.id, .int .i64 gr.cats, .slice X2 gr.fields.length d2, .slice X3 gr.refs.length d3] 35)
  clear s2 s3
  go_wp2_with fail
  refine (storeHist _ c l id _ _ HR2a.out hc).mono ?_
  rw [HE4.out, HE5.out]
  rintro e w3 ⟨v4, rfl, s4, hb⟩
  obtain ⟨X4, d4, rfl, _, s4⟩ := s4
  have HR3 := Aside.mk (HR2a.out.below hb)
  have HB3 := Aside.mk (below_step HB2a.out hb)
  have HP3 := Aside.mk (HP2a.out.below hb)
  have HF3 := Aside.mk (HF2a.out.below hb)
  have HG3 := Aside.mk (HG2a.out.below hb)
  have HQ3 := Aside.mk (HQ2a.out.below hb)
  clear hb HR2a HB2a HP2a HF2a HG2a HQ2a
  have HH3 := Aside.mk s4
  clear s4
  go_wp2_with fail
  refine (storeIds _ c l _ _ HR3.out hc).mono ?_
  rw [HE6.out]
  rintro e w4 ⟨v5, rfl, s5, hb⟩
  obtain ⟨X5, d5, rfl, _, s5⟩ := s5
  have HR4 := Aside.mk (HR3.out.below hb)
  have HB4 := Aside.mk (below_step HB3.out hb)
  have HP4 := Aside.mk (HP3.out.below hb)
  have HF4 := Aside.mk (HF3.out.below hb)
  have HG4 := Aside.mk (HG3.out.below hb)
  have HQ4 := Aside.mk (HQ3.out.below hb)
  have HH4 := Aside.mk (HH3.out.below hb)
  clear hb HR3 HB3 HP3 HF3 HG3 HQ3 HH3
  have HI4 := Aside.mk s5
  clear s5
  go_wp2_with fail
  refine (refStore _ c l _ HWL.out _ HR4.out hc).mono ?_
  skip
  rintro e w5 ⟨rfl, hb⟩
  have HR5 := Aside.mk (HR4.out.below hb)
  have HB5 := Aside.mk (below_step HB4.out hb)
  have HP5 := Aside.mk (HP4.out.below hb)
  have HF5 := Aside.mk (HF4.out.below hb)
  have HG5 := Aside.mk (HG4.out.below hb)
  have HQ5 := Aside.mk (HQ4.out.below hb)
  have HH5 := Aside.mk (HH4.out.below hb)
  have HI5 := Aside.mk (HI4.out.below hb)
  clear hb HR4 HB4 HP4 HF4 HG4 HQ4 HH4 HI4
  go_wp2_with fail
  refine (storeCheck _ c l _ _ HR5.out hc).mono ?_
  skip
  rintro e w6 ⟨rfl, hb⟩
  have HR6 := Aside.mk (HR5.out.below hb)
  have HB6 := Aside.mk (below_step HB5.out hb)
  have HP6 := Aside.mk (HP5.out.below hb)
  have HF6 := Aside.mk (HF5.out.below hb)
  have HG6 := Aside.mk (HG5.out.below hb)
  have HQ6 := Aside.mk (HQ5.out.below hb)
  have HH6 := Aside.mk (HH5.out.below hb)
  have HI6 := Aside.mk (HI5.out.below hb)
  clear hb HR5 HB5 HP5 HF5 HG5 HQ5 HH5 HI5
  go_wp2_with fail
  refine (storeCheck (some ⟨w6.heap.size, 0, none⟩) 1 [verA] (fun _ => True) _ ((row_lit w6).mono fun _ _ _ => trivial) (Nat.le_refl _)).mono ?_
  rw [err_a]
  rintro e w7 ⟨rfl, hb⟩
  replace hb := below_step (w := w6) ((Below.refl _ _).alloc (Nat.le_refl _) _) hb
  have HR7 := Aside.mk (HR6.out.below hb)
  have HB7 := Aside.mk (below_step HB6.out hb)
  have HP7 := Aside.mk (HP6.out.below hb)
  have HF7 := Aside.mk (HF6.out.below hb)
  have HG7 := Aside.mk (HG6.out.below hb)
  have HQ7 := Aside.mk (HQ6.out.below hb)
  have HH7 := Aside.mk (HH6.out.below hb)
  have HI7 := Aside.mk (HI6.out.below hb)
  clear hb HR6 HB6 HP6 HF6 HG6 HQ6 HH6 HI6
  have q := HQ7.out.four
  go_wp2_with fail
  refine (sameRecord gr noRec _ _ none none _ _ 0 0 _ _ (fun _ => True) (fun _ => True) _ HF7.out HG7.out Row.nil Row.nil).mono ?_
  rw [HX.out]
  rintro e w12 ⟨rfl, hb⟩
  clear q
  have HR12 := Aside.mk (HR7.out.below hb)
  have HB12 := Aside.mk (below_step HB7.out hb)
  have HP12 := Aside.mk (HP7.out.below hb)
  have HF12 := Aside.mk (HF7.out.below hb)
  have HG12 := Aside.mk (HG7.out.below hb)
  have HQ12 := Aside.mk (HQ7.out.below hb)
  have HH12 := Aside.mk (HH7.out.below hb)
  have HI12 := Aside.mk (HI7.out.below hb)
  clear hb HR7 HB7 HP7 HF7 HG7 HQ7 HH7 HI7
  go_wp2_with fail
  go_ret
  exact ⟨rfl, HB12.out⟩
set_option maxHeartbeats 8000000 in
set_option maxRecDepth 100000 in
theorem storeSays_00 (A : Option Addr) (c : Nat) (l : List Ver) (cats : Int) (id : ByteArray) (ok : Nat → Prop) (w : World) (hwl : StoWf l) (hr : verR.Row w ok A l) (hc : l.length ≤ c) (h0 : storeErr l = 0) (h1 : decide (0 ≤ cats ∧ cats ≤ 255) = false) (h2 : histL l id = []) :
    Calls Tryd.prog 6 #[.slice A l.length c, .int .i64 cats, .string id] w fun e w' => e = .returned (.bool true) ∧ Below w.heap.size w w' := by
  have HR0 := Aside.mk hr
  have HB0 := Aside.mk (Below.refl w.heap.size w)
  have HWL := Aside.mk hwl
  clear hr hwl
  obtain ⟨gr, hgr⟩ : ∃ gr, getR l id = gr := ⟨_, rfl⟩
  have HGR := Aside.mk hgr
  clear hgr
  have H1 := Aside.mk h0
  have HCV := Aside.mk (show partErr l cats = 1 ∧ partV l cats = [] by rcases cats_ways l cats h0 with ⟨a, h⟩ | ⟨a, h⟩ <;> first | exact h.out | exact h.out | (rw [h1] at a; cases a.1))
  have HHL := Aside.mk h2
  have HHV := Aside.mk (show histErr l id = 4 ∧ histV l id = [] by rcases hist_ways l id h0 with h | ⟨a, h⟩ <;> first | exact h.out.1 | (rw [h2] at a; cases a))
  have hget := get_ways l id h0
  rw [HGR.out] at hget
  have HGW := Aside.mk hget
  clear hget h0 h2
  rcases HGW.out with h | h
  · have HGE := Aside.mk h.out.1
    obtain ⟨HGI, HX⟩ := h.out.2
    clear h HGW
    go_enter Tryd.func6, Tryd.ntmps6
    go_wp2_with fail
    refine (storePart _ c l cats _ _ HR0.out hc).mono ?_
    rw [HCV.out.1, HCV.out.2]
    rintro e w1 ⟨v1, rfl, s1, hb⟩
    obtain ⟨X1, d1, rfl, _, s1⟩ := s1
    have HR1 := Aside.mk (HR0.out.below hb)
    have HB1 := Aside.mk (below_step HB0.out hb)
    clear hb HR0 HB0
    have HP1 := Aside.mk s1
    clear s1
    go_wp2_with fail
    refine (storeGet _ c l id _ _ HR1.out hc).mono ?_
    rw [HGE.out, HGR.out]
    rintro e w2 ⟨v2, v3, rfl, s2, s3, hb⟩
    obtain ⟨X2, d2, rfl, _, s2⟩ := s2
    obtain ⟨X3, d3, rfl, _, s3⟩ := s3
    have HR2 := Aside.mk (HR1.out.below hb)
    have HB2 := Aside.mk (below_step HB1.out hb)
    have HP2 := Aside.mk (HP1.out.below hb)
    clear hb HR1 HB1 HP1
    have HF2 := Aside.mk s2
    have HG2 := Aside.mk s3
    have hb : Below w2.heap.size w2 (w2.alloc (.cells #[.string gr.id, .int .i64 gr.cats, .slice X2 gr.fields.length d2, .slice X3 gr.refs.length d3] 35)) := (Below.refl _ _).alloc (Nat.le_refl _) _
    have HR2a := Aside.mk (HR2.out.below hb)
    have HB2a := Aside.mk (below_step HB2.out hb)
    have HP2a := Aside.mk (HP2.out.below hb)
    have HF2a := Aside.mk (HF2.out.below hb)
    have HG2a := Aside.mk (HG2.out.below hb)
    clear hb HR2 HB2 HP2 HF2 HG2
    have HQ2a := Aside.mk (Bk.made w2 [.string gr.id, .int .i64 gr.cats, .slice X2 gr.fields.length d2, .slice X3 gr.refs.length d3] 35)
    clear s2 s3
    go_wp2_with fail
    refine (storeHist _ c l id _ _ HR2a.out hc).mono ?_
    rw [HHV.out.1, HHV.out.2]
    rintro e w3 ⟨v4, rfl, s4, hb⟩
    obtain ⟨X4, d4, rfl, _, s4⟩ := s4
    have HR3 := Aside.mk (HR2a.out.below hb)
    have HB3 := Aside.mk (below_step HB2a.out hb)
    have HP3 := Aside.mk (HP2a.out.below hb)
    have HF3 := Aside.mk (HF2a.out.below hb)
    have HG3 := Aside.mk (HG2a.out.below hb)
    have HQ3 := Aside.mk (HQ2a.out.below hb)
    clear hb HR2a HB2a HP2a HF2a HG2a HQ2a
    have HH3 := Aside.mk s4
    clear s4
    go_wp2_with fail
    refine (storeIds _ c l _ _ HR3.out hc).mono ?_
    rw [H1.out]
    rintro e w4 ⟨v5, rfl, s5, hb⟩
    obtain ⟨X5, d5, rfl, _, s5⟩ := s5
    have HR4 := Aside.mk (HR3.out.below hb)
    have HB4 := Aside.mk (below_step HB3.out hb)
    have HP4 := Aside.mk (HP3.out.below hb)
    have HF4 := Aside.mk (HF3.out.below hb)
    have HG4 := Aside.mk (HG3.out.below hb)
    have HQ4 := Aside.mk (HQ3.out.below hb)
    have HH4 := Aside.mk (HH3.out.below hb)
    clear hb HR3 HB3 HP3 HF3 HG3 HQ3 HH3
    have HI4 := Aside.mk s5
    clear s5
    go_wp2_with fail
    refine (refStore _ c l _ HWL.out _ HR4.out hc).mono ?_
    rw [H1.out]
    rintro e w5 ⟨rfl, hb⟩
    have HR5 := Aside.mk (HR4.out.below hb)
    have HB5 := Aside.mk (below_step HB4.out hb)
    have HP5 := Aside.mk (HP4.out.below hb)
    have HF5 := Aside.mk (HF4.out.below hb)
    have HG5 := Aside.mk (HG4.out.below hb)
    have HQ5 := Aside.mk (HQ4.out.below hb)
    have HH5 := Aside.mk (HH4.out.below hb)
    have HI5 := Aside.mk (HI4.out.below hb)
    clear hb HR4 HB4 HP4 HF4 HG4 HQ4 HH4 HI4
    go_wp2_with fail
    refine (storeCheck _ c l _ _ HR5.out hc).mono ?_
    rw [H1.out]
    rintro e w6 ⟨rfl, hb⟩
    have HR6 := Aside.mk (HR5.out.below hb)
    have HB6 := Aside.mk (below_step HB5.out hb)
    have HP6 := Aside.mk (HP5.out.below hb)
    have HF6 := Aside.mk (HF5.out.below hb)
    have HG6 := Aside.mk (HG5.out.below hb)
    have HQ6 := Aside.mk (HQ5.out.below hb)
    have HH6 := Aside.mk (HH5.out.below hb)
    have HI6 := Aside.mk (HI5.out.below hb)
    clear hb HR5 HB5 HP5 HF5 HG5 HQ5 HH5 HI5
    go_wp2_with fail
    refine (storeCheck (some ⟨w6.heap.size, 0, none⟩) 1 [verA] (fun _ => True) _ ((row_lit w6).mono fun _ _ _ => trivial) (Nat.le_refl _)).mono ?_
    rw [err_a]
    rintro e w7 ⟨rfl, hb⟩
    replace hb := below_step (w := w6) ((Below.refl _ _).alloc (Nat.le_refl _) _) hb
    have HR7 := Aside.mk (HR6.out.below hb)
    have HB7 := Aside.mk (below_step HB6.out hb)
    have HP7 := Aside.mk (HP6.out.below hb)
    have HF7 := Aside.mk (HF6.out.below hb)
    have HG7 := Aside.mk (HG6.out.below hb)
    have HQ7 := Aside.mk (HQ6.out.below hb)
    have HH7 := Aside.mk (HH6.out.below hb)
    have HI7 := Aside.mk (HI6.out.below hb)
    clear hb HR6 HB6 HP6 HF6 HG6 HQ6 HH6 HI6
    clear HP7
    go_wp2_with (go_at_call 36; refine (refCats _ _).mono ?_; rw [h1]; rintro e w' ⟨rfl, rfl⟩)
    refine (refIds _ c l _ _ HR7.out H1.out).mono ?_
    rintro e w8i ⟨v9, rfl, s9, hb⟩
    obtain ⟨X9, d9, rfl, _, s9⟩ := s9
    have HR8i := Aside.mk (HR7.out.below hb)
    have HB8i := Aside.mk (below_step HB7.out hb)
    have HF8i := Aside.mk (HF7.out.below hb)
    have HG8i := Aside.mk (HG7.out.below hb)
    have HQ8i := Aside.mk (HQ7.out.below hb)
    have HH8i := Aside.mk (HH7.out.below hb)
    have HI8i := Aside.mk (HI7.out.below hb)
    clear hb HR7 HB7 HF7 HG7 HQ7 HH7 HI7
    have HJ8i := Aside.mk s9
    clear s9
    go_wp2_with fail
    refine (equalSt _ _ _ _ (idsV l) (idsV l) _ _ _ HI8i.out HJ8i.out).mono ?_
    rw [decide_eq_true rfl]
    rintro e w9 ⟨rfl, hd⟩
    have hb := hd.below
    clear hd
    have HR9 := Aside.mk (HR8i.out.below hb)
    have HB9 := Aside.mk (below_step HB8i.out hb)
    have HF9 := Aside.mk (HF8i.out.below hb)
    have HG9 := Aside.mk (HG8i.out.below hb)
    have HQ9 := Aside.mk (HQ8i.out.below hb)
    have HH9 := Aside.mk (HH8i.out.below hb)
    have HI9 := Aside.mk (HI8i.out.below hb)
    have HJ9 := Aside.mk (HJ8i.out.below hb)
    clear hb HR8i HB8i HF8i HG8i HQ8i HH8i HI8i HJ8i
    clear HI9 HJ9
    go_wp2_with fail
    refine (refHist _ c l id _ _ HR9.out H1.out trivial).mono ?_
    rintro e w9h ⟨v8, rfl, ho, hb⟩
    replace ho : verR.Own 62 w9h _ _ v8 (histL l id) := ho
    rw [HHL.out] at ho
    obtain ⟨X8, d8, rfl, _, s8⟩ := ho.sl
    clear ho
    have HR9h := Aside.mk (HR9.out.below hb)
    have HB9h := Aside.mk (below_step HB9.out hb)
    have HF9h := Aside.mk (HF9.out.below hb)
    have HG9h := Aside.mk (HG9.out.below hb)
    have HQ9h := Aside.mk (HQ9.out.below hb)
    have HH9h := Aside.mk (HH9.out.below hb)
    clear hb HR9 HB9 HF9 HG9 HQ9 HH9
    have HS89h := Aside.mk s8
    clear s8
    clear HH9h HS89h
    go_wp2_with fail
    refine (refGet _ _ _ l id _ _ HR9h.out rfl).mono ?_
    rw [HGI.out]
    rintro e w11 ⟨rfl, hb⟩
    have HR11 := Aside.mk (HR9h.out.below hb)
    have HB11 := Aside.mk (below_step HB9h.out hb)
    have HF11 := Aside.mk (HF9h.out.below hb)
    have HG11 := Aside.mk (HG9h.out.below hb)
    have HQ11 := Aside.mk (HQ9h.out.below hb)
    clear hb HR9h HB9h HF9h HG9h HQ9h
    have q := HQ11.out.four
    go_wp2_with fail
    refine (sameRecord gr noRec _ _ none none _ _ 0 0 _ _ (fun _ => True) (fun _ => True) _ HF11.out HG11.out Row.nil Row.nil).mono ?_
    rw [HX.out]
    rintro e w12 ⟨rfl, hb⟩
    clear q
    have HR12 := Aside.mk (HR11.out.below hb)
    have HB12 := Aside.mk (below_step HB11.out hb)
    have HF12 := Aside.mk (HF11.out.below hb)
    have HG12 := Aside.mk (HG11.out.below hb)
    have HQ12 := Aside.mk (HQ11.out.below hb)
    clear hb HR11 HB11 HF11 HG11 HQ11
    go_wp2_with fail
    go_ret
    exact ⟨rfl, HB12.out⟩
  · have HGE := Aside.mk h.out.1
    obtain ⟨j, hj, HGI, HX⟩ := h.out.2
    clear h HGW
    go_enter Tryd.func6, Tryd.ntmps6
    go_wp2_with fail
    refine (storePart _ c l cats _ _ HR0.out hc).mono ?_
    rw [HCV.out.1, HCV.out.2]
    rintro e w1 ⟨v1, rfl, s1, hb⟩
    obtain ⟨X1, d1, rfl, _, s1⟩ := s1
    have HR1 := Aside.mk (HR0.out.below hb)
    have HB1 := Aside.mk (below_step HB0.out hb)
    clear hb HR0 HB0
    have HP1 := Aside.mk s1
    clear s1
    go_wp2_with fail
    refine (storeGet _ c l id _ _ HR1.out hc).mono ?_
    rw [HGE.out, HGR.out]
    rintro e w2 ⟨v2, v3, rfl, s2, s3, hb⟩
    obtain ⟨X2, d2, rfl, _, s2⟩ := s2
    obtain ⟨X3, d3, rfl, _, s3⟩ := s3
    have HR2 := Aside.mk (HR1.out.below hb)
    have HB2 := Aside.mk (below_step HB1.out hb)
    have HP2 := Aside.mk (HP1.out.below hb)
    clear hb HR1 HB1 HP1
    have HF2 := Aside.mk s2
    have HG2 := Aside.mk s3
    have hb : Below w2.heap.size w2 (w2.alloc (.cells #[.string gr.id, .int .i64 gr.cats, .slice X2 gr.fields.length d2, .slice X3 gr.refs.length d3] 35)) := (Below.refl _ _).alloc (Nat.le_refl _) _
    have HR2a := Aside.mk (HR2.out.below hb)
    have HB2a := Aside.mk (below_step HB2.out hb)
    have HP2a := Aside.mk (HP2.out.below hb)
    have HF2a := Aside.mk (HF2.out.below hb)
    have HG2a := Aside.mk (HG2.out.below hb)
    clear hb HR2 HB2 HP2 HF2 HG2
    have HQ2a := Aside.mk (Bk.made w2 [.string gr.id, .int .i64 gr.cats, .slice X2 gr.fields.length d2, .slice X3 gr.refs.length d3] 35)
    clear s2 s3
    go_wp2_with fail
    refine (storeHist _ c l id _ _ HR2a.out hc).mono ?_
    rw [HHV.out.1, HHV.out.2]
    rintro e w3 ⟨v4, rfl, s4, hb⟩
    obtain ⟨X4, d4, rfl, _, s4⟩ := s4
    have HR3 := Aside.mk (HR2a.out.below hb)
    have HB3 := Aside.mk (below_step HB2a.out hb)
    have HP3 := Aside.mk (HP2a.out.below hb)
    have HF3 := Aside.mk (HF2a.out.below hb)
    have HG3 := Aside.mk (HG2a.out.below hb)
    have HQ3 := Aside.mk (HQ2a.out.below hb)
    clear hb HR2a HB2a HP2a HF2a HG2a HQ2a
    have HH3 := Aside.mk s4
    clear s4
    go_wp2_with fail
    refine (storeIds _ c l _ _ HR3.out hc).mono ?_
    rw [H1.out]
    rintro e w4 ⟨v5, rfl, s5, hb⟩
    obtain ⟨X5, d5, rfl, _, s5⟩ := s5
    have HR4 := Aside.mk (HR3.out.below hb)
    have HB4 := Aside.mk (below_step HB3.out hb)
    have HP4 := Aside.mk (HP3.out.below hb)
    have HF4 := Aside.mk (HF3.out.below hb)
    have HG4 := Aside.mk (HG3.out.below hb)
    have HQ4 := Aside.mk (HQ3.out.below hb)
    have HH4 := Aside.mk (HH3.out.below hb)
    clear hb HR3 HB3 HP3 HF3 HG3 HQ3 HH3
    have HI4 := Aside.mk s5
    clear s5
    go_wp2_with fail
    refine (refStore _ c l _ HWL.out _ HR4.out hc).mono ?_
    rw [H1.out]
    rintro e w5 ⟨rfl, hb⟩
    have HR5 := Aside.mk (HR4.out.below hb)
    have HB5 := Aside.mk (below_step HB4.out hb)
    have HP5 := Aside.mk (HP4.out.below hb)
    have HF5 := Aside.mk (HF4.out.below hb)
    have HG5 := Aside.mk (HG4.out.below hb)
    have HQ5 := Aside.mk (HQ4.out.below hb)
    have HH5 := Aside.mk (HH4.out.below hb)
    have HI5 := Aside.mk (HI4.out.below hb)
    clear hb HR4 HB4 HP4 HF4 HG4 HQ4 HH4 HI4
    go_wp2_with fail
    refine (storeCheck _ c l _ _ HR5.out hc).mono ?_
    rw [H1.out]
    rintro e w6 ⟨rfl, hb⟩
    have HR6 := Aside.mk (HR5.out.below hb)
    have HB6 := Aside.mk (below_step HB5.out hb)
    have HP6 := Aside.mk (HP5.out.below hb)
    have HF6 := Aside.mk (HF5.out.below hb)
    have HG6 := Aside.mk (HG5.out.below hb)
    have HQ6 := Aside.mk (HQ5.out.below hb)
    have HH6 := Aside.mk (HH5.out.below hb)
    have HI6 := Aside.mk (HI5.out.below hb)
    clear hb HR5 HB5 HP5 HF5 HG5 HQ5 HH5 HI5
    go_wp2_with fail
    refine (storeCheck (some ⟨w6.heap.size, 0, none⟩) 1 [verA] (fun _ => True) _ ((row_lit w6).mono fun _ _ _ => trivial) (Nat.le_refl _)).mono ?_
    rw [err_a]
    rintro e w7 ⟨rfl, hb⟩
    replace hb := below_step (w := w6) ((Below.refl _ _).alloc (Nat.le_refl _) _) hb
    have HR7 := Aside.mk (HR6.out.below hb)
    have HB7 := Aside.mk (below_step HB6.out hb)
    have HP7 := Aside.mk (HP6.out.below hb)
    have HF7 := Aside.mk (HF6.out.below hb)
    have HG7 := Aside.mk (HG6.out.below hb)
    have HQ7 := Aside.mk (HQ6.out.below hb)
    have HH7 := Aside.mk (HH6.out.below hb)
    have HI7 := Aside.mk (HI6.out.below hb)
    clear hb HR6 HB6 HP6 HF6 HG6 HQ6 HH6 HI6
    clear HP7
    go_wp2_with (go_at_call 36; refine (refCats _ _).mono ?_; rw [h1]; rintro e w' ⟨rfl, rfl⟩)
    refine (refIds _ c l _ _ HR7.out H1.out).mono ?_
    rintro e w8i ⟨v9, rfl, s9, hb⟩
    obtain ⟨X9, d9, rfl, _, s9⟩ := s9
    have HR8i := Aside.mk (HR7.out.below hb)
    have HB8i := Aside.mk (below_step HB7.out hb)
    have HF8i := Aside.mk (HF7.out.below hb)
    have HG8i := Aside.mk (HG7.out.below hb)
    have HQ8i := Aside.mk (HQ7.out.below hb)
    have HH8i := Aside.mk (HH7.out.below hb)
    have HI8i := Aside.mk (HI7.out.below hb)
    clear hb HR7 HB7 HF7 HG7 HQ7 HH7 HI7
    have HJ8i := Aside.mk s9
    clear s9
    go_wp2_with fail
    refine (equalSt _ _ _ _ (idsV l) (idsV l) _ _ _ HI8i.out HJ8i.out).mono ?_
    rw [decide_eq_true rfl]
    rintro e w9 ⟨rfl, hd⟩
    have hb := hd.below
    clear hd
    have HR9 := Aside.mk (HR8i.out.below hb)
    have HB9 := Aside.mk (below_step HB8i.out hb)
    have HF9 := Aside.mk (HF8i.out.below hb)
    have HG9 := Aside.mk (HG8i.out.below hb)
    have HQ9 := Aside.mk (HQ8i.out.below hb)
    have HH9 := Aside.mk (HH8i.out.below hb)
    have HI9 := Aside.mk (HI8i.out.below hb)
    have HJ9 := Aside.mk (HJ8i.out.below hb)
    clear hb HR8i HB8i HF8i HG8i HQ8i HH8i HI8i HJ8i
    clear HI9 HJ9
    go_wp2_with fail
    refine (refHist _ c l id _ _ HR9.out H1.out trivial).mono ?_
    rintro e w9h ⟨v8, rfl, ho, hb⟩
    replace ho : verR.Own 62 w9h _ _ v8 (histL l id) := ho
    rw [HHL.out] at ho
    obtain ⟨X8, d8, rfl, _, s8⟩ := ho.sl
    clear ho
    have HR9h := Aside.mk (HR9.out.below hb)
    have HB9h := Aside.mk (below_step HB9.out hb)
    have HF9h := Aside.mk (HF9.out.below hb)
    have HG9h := Aside.mk (HG9.out.below hb)
    have HQ9h := Aside.mk (HQ9.out.below hb)
    have HH9h := Aside.mk (HH9.out.below hb)
    clear hb HR9 HB9 HF9 HG9 HQ9 HH9
    have HS89h := Aside.mk s8
    clear s8
    clear HH9h HS89h
    go_wp2_with fail
    refine (refGet _ _ _ l id _ _ HR9h.out rfl).mono ?_
    rw [HGI.out]
    rintro e w11 ⟨rfl, hb⟩
    have HR11 := Aside.mk (HR9h.out.below hb)
    have HB11 := Aside.mk (below_step HB9h.out hb)
    have HF11 := Aside.mk (HF9h.out.below hb)
    have HG11 := Aside.mk (HG9h.out.below hb)
    have HQ11 := Aside.mk (HQ9h.out.below hb)
    clear hb HR9h HB9h HF9h HG9h HQ9h
    obtain ⟨ad, A1, c1, A2, c2, rfl, _, x0, x1, x2, x3, _, _, _, r1, r2⟩ := ver_at HR11.out hj
    have HR1' := Aside.mk r1
    have HR2' := Aside.mk r2
    clear r1 r2
    have p0 : (0 : Int) ≤ (j : Int) := by omega
    have p1 : (j : Int) < (l.length : Int) := by omega
    have q := HQ11.out.four
    go_wp2_with fail
    generalize hq2 : w2.heap.size = g2 at *
    have HKQ := Aside.mk (show Kq2 w11 g2 gr.id gr.cats (.slice X2 gr.fields.length d2) (.slice X3 gr.refs.length d3) (ad.add (j * 5)) l[j].r.id l[j].r.cats (.slice A1 l[j].r.fields.length c1) (.slice A2 l[j].r.refs.length c2) from ⟨q.2.1, q.2.2.1, q.2.2.2.1, q.2.2.2.2.1, x0, x1, x2, x3⟩)
    go_region_held3 (fun w' => Kq2 w' g2 gr.id gr.cats (.slice X2 gr.fields.length d2) (.slice X3 gr.refs.length d3) (ad.add (j * 5)) l[j].r.id l[j].r.cats (.slice A1 l[j].r.fields.length c1) (.slice A2 l[j].r.refs.length c2))
      (first | exact HKQ.out | assumption)
      (first
       | (go_at_call 35; refine (sameRecord gr l[j].r _ _ _ _ _ _ _ _ _ _ _ _ _ (HF11.out.below (below_drewN (Below.refl _ _) 1)) (HG11.out.below (below_drewN (Below.refl _ _) 1)) (HR1'.out.below (below_drewN (Below.refl _ _) 1)) (HR2'.out.below (below_drewN (Below.refl _ _) 1))).mono ?_; rw [HX.out]; rintro e w12 ⟨rfl, hb⟩
          have hb3 := below_step (below_drewN (Below.refl w11.heap.size w11) 1) hb
          have hx := Kq2.step HKQ.out hb3
          have HB12 := Aside.mk (below_step HB11.out hb3)
          clear hb hb3))
    go_wp2
    go_ret
    exact ⟨rfl, HB12.out⟩
set_option maxHeartbeats 8000000 in
set_option maxRecDepth 100000 in
theorem storeSays_01 (A : Option Addr) (c : Nat) (l : List Ver) (cats : Int) (id : ByteArray) (ok : Nat → Prop) (w : World) (hwl : StoWf l) (hr : verR.Row w ok A l) (hc : l.length ≤ c) (h0 : storeErr l = 0) (h1 : decide (0 ≤ cats ∧ cats ≤ 255) = false) (h2 : ((((histL l id).length : Nat) : Int) == 0) = false) :
    Calls Tryd.prog 6 #[.slice A l.length c, .int .i64 cats, .string id] w fun e w' => e = .returned (.bool true) ∧ Below w.heap.size w w' := by
  have HR0 := Aside.mk hr
  have HB0 := Aside.mk (Below.refl w.heap.size w)
  have HWL := Aside.mk hwl
  clear hr hwl
  obtain ⟨gr, hgr⟩ : ∃ gr, getR l id = gr := ⟨_, rfl⟩
  have HGR := Aside.mk hgr
  clear hgr
  have H1 := Aside.mk h0
  have HCV := Aside.mk (show partErr l cats = 1 ∧ partV l cats = [] by rcases cats_ways l cats h0 with ⟨a, h⟩ | ⟨a, h⟩ <;> first | exact h.out | exact h.out | (rw [h1] at a; cases a.1))
  have HHV := Aside.mk (show histErr l id = 0 ∧ histV l id = histL l id by rcases hist_ways l id h0 with h | ⟨_, h⟩ <;> first | exact h.out | (rw [h.out.2] at h2; cases h2))
  have hget := get_ways l id h0
  rw [HGR.out] at hget
  have HGW := Aside.mk hget
  clear hget h0
  rcases HGW.out with h | h
  · have HGE := Aside.mk h.out.1
    obtain ⟨HGI, HX⟩ := h.out.2
    clear h HGW
    go_enter Tryd.func6, Tryd.ntmps6
    go_wp2_with fail
    refine (storePart _ c l cats _ _ HR0.out hc).mono ?_
    rw [HCV.out.1, HCV.out.2]
    rintro e w1 ⟨v1, rfl, s1, hb⟩
    obtain ⟨X1, d1, rfl, _, s1⟩ := s1
    have HR1 := Aside.mk (HR0.out.below hb)
    have HB1 := Aside.mk (below_step HB0.out hb)
    clear hb HR0 HB0
    have HP1 := Aside.mk s1
    clear s1
    go_wp2_with fail
    refine (storeGet _ c l id _ _ HR1.out hc).mono ?_
    rw [HGE.out, HGR.out]
    rintro e w2 ⟨v2, v3, rfl, s2, s3, hb⟩
    obtain ⟨X2, d2, rfl, _, s2⟩ := s2
    obtain ⟨X3, d3, rfl, _, s3⟩ := s3
    have HR2 := Aside.mk (HR1.out.below hb)
    have HB2 := Aside.mk (below_step HB1.out hb)
    have HP2 := Aside.mk (HP1.out.below hb)
    clear hb HR1 HB1 HP1
    have HF2 := Aside.mk s2
    have HG2 := Aside.mk s3
    have hb : Below w2.heap.size w2 (w2.alloc (.cells #[.string gr.id, .int .i64 gr.cats, .slice X2 gr.fields.length d2, .slice X3 gr.refs.length d3] 35)) := (Below.refl _ _).alloc (Nat.le_refl _) _
    have HR2a := Aside.mk (HR2.out.below hb)
    have HB2a := Aside.mk (below_step HB2.out hb)
    have HP2a := Aside.mk (HP2.out.below hb)
    have HF2a := Aside.mk (HF2.out.below hb)
    have HG2a := Aside.mk (HG2.out.below hb)
    clear hb HR2 HB2 HP2 HF2 HG2
    have HQ2a := Aside.mk (Bk.made w2 [.string gr.id, .int .i64 gr.cats, .slice X2 gr.fields.length d2, .slice X3 gr.refs.length d3] 35)
    clear s2 s3
    go_wp2_with fail
    refine (storeHist _ c l id _ _ HR2a.out hc).mono ?_
    rw [HHV.out.1, HHV.out.2]
    rintro e w3 ⟨v4, rfl, s4, hb⟩
    obtain ⟨X4, d4, rfl, _, s4⟩ := s4
    have HR3 := Aside.mk (HR2a.out.below hb)
    have HB3 := Aside.mk (below_step HB2a.out hb)
    have HP3 := Aside.mk (HP2a.out.below hb)
    have HF3 := Aside.mk (HF2a.out.below hb)
    have HG3 := Aside.mk (HG2a.out.below hb)
    have HQ3 := Aside.mk (HQ2a.out.below hb)
    clear hb HR2a HB2a HP2a HF2a HG2a HQ2a
    have HH3 := Aside.mk s4
    clear s4
    go_wp2_with fail
    refine (storeIds _ c l _ _ HR3.out hc).mono ?_
    rw [H1.out]
    rintro e w4 ⟨v5, rfl, s5, hb⟩
    obtain ⟨X5, d5, rfl, _, s5⟩ := s5
    have HR4 := Aside.mk (HR3.out.below hb)
    have HB4 := Aside.mk (below_step HB3.out hb)
    have HP4 := Aside.mk (HP3.out.below hb)
    have HF4 := Aside.mk (HF3.out.below hb)
    have HG4 := Aside.mk (HG3.out.below hb)
    have HQ4 := Aside.mk (HQ3.out.below hb)
    have HH4 := Aside.mk (HH3.out.below hb)
    clear hb HR3 HB3 HP3 HF3 HG3 HQ3 HH3
    have HI4 := Aside.mk s5
    clear s5
    go_wp2_with fail
    refine (refStore _ c l _ HWL.out _ HR4.out hc).mono ?_
    rw [H1.out]
    rintro e w5 ⟨rfl, hb⟩
    have HR5 := Aside.mk (HR4.out.below hb)
    have HB5 := Aside.mk (below_step HB4.out hb)
    have HP5 := Aside.mk (HP4.out.below hb)
    have HF5 := Aside.mk (HF4.out.below hb)
    have HG5 := Aside.mk (HG4.out.below hb)
    have HQ5 := Aside.mk (HQ4.out.below hb)
    have HH5 := Aside.mk (HH4.out.below hb)
    have HI5 := Aside.mk (HI4.out.below hb)
    clear hb HR4 HB4 HP4 HF4 HG4 HQ4 HH4 HI4
    go_wp2_with fail
    refine (storeCheck _ c l _ _ HR5.out hc).mono ?_
    rw [H1.out]
    rintro e w6 ⟨rfl, hb⟩
    have HR6 := Aside.mk (HR5.out.below hb)
    have HB6 := Aside.mk (below_step HB5.out hb)
    have HP6 := Aside.mk (HP5.out.below hb)
    have HF6 := Aside.mk (HF5.out.below hb)
    have HG6 := Aside.mk (HG5.out.below hb)
    have HQ6 := Aside.mk (HQ5.out.below hb)
    have HH6 := Aside.mk (HH5.out.below hb)
    have HI6 := Aside.mk (HI5.out.below hb)
    clear hb HR5 HB5 HP5 HF5 HG5 HQ5 HH5 HI5
    go_wp2_with fail
    refine (storeCheck (some ⟨w6.heap.size, 0, none⟩) 1 [verA] (fun _ => True) _ ((row_lit w6).mono fun _ _ _ => trivial) (Nat.le_refl _)).mono ?_
    rw [err_a]
    rintro e w7 ⟨rfl, hb⟩
    replace hb := below_step (w := w6) ((Below.refl _ _).alloc (Nat.le_refl _) _) hb
    have HR7 := Aside.mk (HR6.out.below hb)
    have HB7 := Aside.mk (below_step HB6.out hb)
    have HP7 := Aside.mk (HP6.out.below hb)
    have HF7 := Aside.mk (HF6.out.below hb)
    have HG7 := Aside.mk (HG6.out.below hb)
    have HQ7 := Aside.mk (HQ6.out.below hb)
    have HH7 := Aside.mk (HH6.out.below hb)
    have HI7 := Aside.mk (HI6.out.below hb)
    clear hb HR6 HB6 HP6 HF6 HG6 HQ6 HH6 HI6
    clear HP7
    go_wp2_with (go_at_call 36; refine (refCats _ _).mono ?_; rw [h1]; rintro e w' ⟨rfl, rfl⟩)
    refine (refIds _ c l _ _ HR7.out H1.out).mono ?_
    rintro e w8i ⟨v9, rfl, s9, hb⟩
    obtain ⟨X9, d9, rfl, _, s9⟩ := s9
    have HR8i := Aside.mk (HR7.out.below hb)
    have HB8i := Aside.mk (below_step HB7.out hb)
    have HF8i := Aside.mk (HF7.out.below hb)
    have HG8i := Aside.mk (HG7.out.below hb)
    have HQ8i := Aside.mk (HQ7.out.below hb)
    have HH8i := Aside.mk (HH7.out.below hb)
    have HI8i := Aside.mk (HI7.out.below hb)
    clear hb HR7 HB7 HF7 HG7 HQ7 HH7 HI7
    have HJ8i := Aside.mk s9
    clear s9
    go_wp2_with fail
    refine (equalSt _ _ _ _ (idsV l) (idsV l) _ _ _ HI8i.out HJ8i.out).mono ?_
    rw [decide_eq_true rfl]
    rintro e w9 ⟨rfl, hd⟩
    have hb := hd.below
    clear hd
    have HR9 := Aside.mk (HR8i.out.below hb)
    have HB9 := Aside.mk (below_step HB8i.out hb)
    have HF9 := Aside.mk (HF8i.out.below hb)
    have HG9 := Aside.mk (HG8i.out.below hb)
    have HQ9 := Aside.mk (HQ8i.out.below hb)
    have HH9 := Aside.mk (HH8i.out.below hb)
    have HI9 := Aside.mk (HI8i.out.below hb)
    have HJ9 := Aside.mk (HJ8i.out.below hb)
    clear hb HR8i HB8i HF8i HG8i HQ8i HH8i HI8i HJ8i
    clear HI9 HJ9
    go_wp2_with fail
    refine (refHist _ c l id _ _ HR9.out H1.out trivial).mono ?_
    rintro e w9h ⟨v8, rfl, ho, hb⟩
    replace ho : verR.Own 62 w9h _ _ v8 (histL l id) := ho
    obtain ⟨X8, d8, rfl, _, s8⟩ := ho.sl
    clear ho
    have HR9h := Aside.mk (HR9.out.below hb)
    have HB9h := Aside.mk (below_step HB9.out hb)
    have HF9h := Aside.mk (HF9.out.below hb)
    have HG9h := Aside.mk (HG9.out.below hb)
    have HQ9h := Aside.mk (HQ9.out.below hb)
    have HH9h := Aside.mk (HH9.out.below hb)
    clear hb HR9 HB9 HF9 HG9 HQ9 HH9
    have HS89h := Aside.mk s8
    clear s8
    go_wp2_with fail
    refine (refSameStore _ _ _ _ _ _ (histL l id) (histL l id) _ _ _ HH9h.out HS89h.out rfl rfl).mono ?_
    rw [decide_eq_true rfl]
    rintro e w10 ⟨rfl, hb⟩
    have HR10 := Aside.mk (HR9h.out.below hb)
    have HB10 := Aside.mk (below_step HB9h.out hb)
    have HF10 := Aside.mk (HF9h.out.below hb)
    have HG10 := Aside.mk (HG9h.out.below hb)
    have HQ10 := Aside.mk (HQ9h.out.below hb)
    have HH10 := Aside.mk (HH9h.out.below hb)
    have HS810 := Aside.mk (HS89h.out.below hb)
    clear hb HR9h HB9h HF9h HG9h HQ9h HH9h HS89h
    clear HH10 HS810
    go_wp2_with fail
    refine (refGet _ _ _ l id _ _ HR10.out rfl).mono ?_
    rw [HGI.out]
    rintro e w11 ⟨rfl, hb⟩
    have HR11 := Aside.mk (HR10.out.below hb)
    have HB11 := Aside.mk (below_step HB10.out hb)
    have HF11 := Aside.mk (HF10.out.below hb)
    have HG11 := Aside.mk (HG10.out.below hb)
    have HQ11 := Aside.mk (HQ10.out.below hb)
    clear hb HR10 HB10 HF10 HG10 HQ10
    have q := HQ11.out.four
    go_wp2_with fail
    refine (sameRecord gr noRec _ _ none none _ _ 0 0 _ _ (fun _ => True) (fun _ => True) _ HF11.out HG11.out Row.nil Row.nil).mono ?_
    rw [HX.out]
    rintro e w12 ⟨rfl, hb⟩
    clear q
    have HR12 := Aside.mk (HR11.out.below hb)
    have HB12 := Aside.mk (below_step HB11.out hb)
    have HF12 := Aside.mk (HF11.out.below hb)
    have HG12 := Aside.mk (HG11.out.below hb)
    have HQ12 := Aside.mk (HQ11.out.below hb)
    clear hb HR11 HB11 HF11 HG11 HQ11
    go_wp2_with fail
    go_ret
    exact ⟨rfl, HB12.out⟩
  · have HGE := Aside.mk h.out.1
    obtain ⟨j, hj, HGI, HX⟩ := h.out.2
    clear h HGW
    go_enter Tryd.func6, Tryd.ntmps6
    go_wp2_with fail
    refine (storePart _ c l cats _ _ HR0.out hc).mono ?_
    rw [HCV.out.1, HCV.out.2]
    rintro e w1 ⟨v1, rfl, s1, hb⟩
    obtain ⟨X1, d1, rfl, _, s1⟩ := s1
    have HR1 := Aside.mk (HR0.out.below hb)
    have HB1 := Aside.mk (below_step HB0.out hb)
    clear hb HR0 HB0
    have HP1 := Aside.mk s1
    clear s1
    go_wp2_with fail
    refine (storeGet _ c l id _ _ HR1.out hc).mono ?_
    rw [HGE.out, HGR.out]
    rintro e w2 ⟨v2, v3, rfl, s2, s3, hb⟩
    obtain ⟨X2, d2, rfl, _, s2⟩ := s2
    obtain ⟨X3, d3, rfl, _, s3⟩ := s3
    have HR2 := Aside.mk (HR1.out.below hb)
    have HB2 := Aside.mk (below_step HB1.out hb)
    have HP2 := Aside.mk (HP1.out.below hb)
    clear hb HR1 HB1 HP1
    have HF2 := Aside.mk s2
    have HG2 := Aside.mk s3
    have hb : Below w2.heap.size w2 (w2.alloc (.cells #[.string gr.id, .int .i64 gr.cats, .slice X2 gr.fields.length d2, .slice X3 gr.refs.length d3] 35)) := (Below.refl _ _).alloc (Nat.le_refl _) _
    have HR2a := Aside.mk (HR2.out.below hb)
    have HB2a := Aside.mk (below_step HB2.out hb)
    have HP2a := Aside.mk (HP2.out.below hb)
    have HF2a := Aside.mk (HF2.out.below hb)
    have HG2a := Aside.mk (HG2.out.below hb)
    clear hb HR2 HB2 HP2 HF2 HG2
    have HQ2a := Aside.mk (Bk.made w2 [.string gr.id, .int .i64 gr.cats, .slice X2 gr.fields.length d2, .slice X3 gr.refs.length d3] 35)
    clear s2 s3
    go_wp2_with fail
    refine (storeHist _ c l id _ _ HR2a.out hc).mono ?_
    rw [HHV.out.1, HHV.out.2]
    rintro e w3 ⟨v4, rfl, s4, hb⟩
    obtain ⟨X4, d4, rfl, _, s4⟩ := s4
    have HR3 := Aside.mk (HR2a.out.below hb)
    have HB3 := Aside.mk (below_step HB2a.out hb)
    have HP3 := Aside.mk (HP2a.out.below hb)
    have HF3 := Aside.mk (HF2a.out.below hb)
    have HG3 := Aside.mk (HG2a.out.below hb)
    have HQ3 := Aside.mk (HQ2a.out.below hb)
    clear hb HR2a HB2a HP2a HF2a HG2a HQ2a
    have HH3 := Aside.mk s4
    clear s4
    go_wp2_with fail
    refine (storeIds _ c l _ _ HR3.out hc).mono ?_
    rw [H1.out]
    rintro e w4 ⟨v5, rfl, s5, hb⟩
    obtain ⟨X5, d5, rfl, _, s5⟩ := s5
    have HR4 := Aside.mk (HR3.out.below hb)
    have HB4 := Aside.mk (below_step HB3.out hb)
    have HP4 := Aside.mk (HP3.out.below hb)
    have HF4 := Aside.mk (HF3.out.below hb)
    have HG4 := Aside.mk (HG3.out.below hb)
    have HQ4 := Aside.mk (HQ3.out.below hb)
    have HH4 := Aside.mk (HH3.out.below hb)
    clear hb HR3 HB3 HP3 HF3 HG3 HQ3 HH3
    have HI4 := Aside.mk s5
    clear s5
    go_wp2_with fail
    refine (refStore _ c l _ HWL.out _ HR4.out hc).mono ?_
    rw [H1.out]
    rintro e w5 ⟨rfl, hb⟩
    have HR5 := Aside.mk (HR4.out.below hb)
    have HB5 := Aside.mk (below_step HB4.out hb)
    have HP5 := Aside.mk (HP4.out.below hb)
    have HF5 := Aside.mk (HF4.out.below hb)
    have HG5 := Aside.mk (HG4.out.below hb)
    have HQ5 := Aside.mk (HQ4.out.below hb)
    have HH5 := Aside.mk (HH4.out.below hb)
    have HI5 := Aside.mk (HI4.out.below hb)
    clear hb HR4 HB4 HP4 HF4 HG4 HQ4 HH4 HI4
    go_wp2_with fail
    refine (storeCheck _ c l _ _ HR5.out hc).mono ?_
    rw [H1.out]
    rintro e w6 ⟨rfl, hb⟩
    have HR6 := Aside.mk (HR5.out.below hb)
    have HB6 := Aside.mk (below_step HB5.out hb)
    have HP6 := Aside.mk (HP5.out.below hb)
    have HF6 := Aside.mk (HF5.out.below hb)
    have HG6 := Aside.mk (HG5.out.below hb)
    have HQ6 := Aside.mk (HQ5.out.below hb)
    have HH6 := Aside.mk (HH5.out.below hb)
    have HI6 := Aside.mk (HI5.out.below hb)
    clear hb HR5 HB5 HP5 HF5 HG5 HQ5 HH5 HI5
    go_wp2_with fail
    refine (storeCheck (some ⟨w6.heap.size, 0, none⟩) 1 [verA] (fun _ => True) _ ((row_lit w6).mono fun _ _ _ => trivial) (Nat.le_refl _)).mono ?_
    rw [err_a]
    rintro e w7 ⟨rfl, hb⟩
    replace hb := below_step (w := w6) ((Below.refl _ _).alloc (Nat.le_refl _) _) hb
    have HR7 := Aside.mk (HR6.out.below hb)
    have HB7 := Aside.mk (below_step HB6.out hb)
    have HP7 := Aside.mk (HP6.out.below hb)
    have HF7 := Aside.mk (HF6.out.below hb)
    have HG7 := Aside.mk (HG6.out.below hb)
    have HQ7 := Aside.mk (HQ6.out.below hb)
    have HH7 := Aside.mk (HH6.out.below hb)
    have HI7 := Aside.mk (HI6.out.below hb)
    clear hb HR6 HB6 HP6 HF6 HG6 HQ6 HH6 HI6
    clear HP7
    go_wp2_with (go_at_call 36; refine (refCats _ _).mono ?_; rw [h1]; rintro e w' ⟨rfl, rfl⟩)
    refine (refIds _ c l _ _ HR7.out H1.out).mono ?_
    rintro e w8i ⟨v9, rfl, s9, hb⟩
    obtain ⟨X9, d9, rfl, _, s9⟩ := s9
    have HR8i := Aside.mk (HR7.out.below hb)
    have HB8i := Aside.mk (below_step HB7.out hb)
    have HF8i := Aside.mk (HF7.out.below hb)
    have HG8i := Aside.mk (HG7.out.below hb)
    have HQ8i := Aside.mk (HQ7.out.below hb)
    have HH8i := Aside.mk (HH7.out.below hb)
    have HI8i := Aside.mk (HI7.out.below hb)
    clear hb HR7 HB7 HF7 HG7 HQ7 HH7 HI7
    have HJ8i := Aside.mk s9
    clear s9
    go_wp2_with fail
    refine (equalSt _ _ _ _ (idsV l) (idsV l) _ _ _ HI8i.out HJ8i.out).mono ?_
    rw [decide_eq_true rfl]
    rintro e w9 ⟨rfl, hd⟩
    have hb := hd.below
    clear hd
    have HR9 := Aside.mk (HR8i.out.below hb)
    have HB9 := Aside.mk (below_step HB8i.out hb)
    have HF9 := Aside.mk (HF8i.out.below hb)
    have HG9 := Aside.mk (HG8i.out.below hb)
    have HQ9 := Aside.mk (HQ8i.out.below hb)
    have HH9 := Aside.mk (HH8i.out.below hb)
    have HI9 := Aside.mk (HI8i.out.below hb)
    have HJ9 := Aside.mk (HJ8i.out.below hb)
    clear hb HR8i HB8i HF8i HG8i HQ8i HH8i HI8i HJ8i
    clear HI9 HJ9
    go_wp2_with fail
    refine (refHist _ c l id _ _ HR9.out H1.out trivial).mono ?_
    rintro e w9h ⟨v8, rfl, ho, hb⟩
    replace ho : verR.Own 62 w9h _ _ v8 (histL l id) := ho
    obtain ⟨X8, d8, rfl, _, s8⟩ := ho.sl
    clear ho
    have HR9h := Aside.mk (HR9.out.below hb)
    have HB9h := Aside.mk (below_step HB9.out hb)
    have HF9h := Aside.mk (HF9.out.below hb)
    have HG9h := Aside.mk (HG9.out.below hb)
    have HQ9h := Aside.mk (HQ9.out.below hb)
    have HH9h := Aside.mk (HH9.out.below hb)
    clear hb HR9 HB9 HF9 HG9 HQ9 HH9
    have HS89h := Aside.mk s8
    clear s8
    go_wp2_with fail
    refine (refSameStore _ _ _ _ _ _ (histL l id) (histL l id) _ _ _ HH9h.out HS89h.out rfl rfl).mono ?_
    rw [decide_eq_true rfl]
    rintro e w10 ⟨rfl, hb⟩
    have HR10 := Aside.mk (HR9h.out.below hb)
    have HB10 := Aside.mk (below_step HB9h.out hb)
    have HF10 := Aside.mk (HF9h.out.below hb)
    have HG10 := Aside.mk (HG9h.out.below hb)
    have HQ10 := Aside.mk (HQ9h.out.below hb)
    have HH10 := Aside.mk (HH9h.out.below hb)
    have HS810 := Aside.mk (HS89h.out.below hb)
    clear hb HR9h HB9h HF9h HG9h HQ9h HH9h HS89h
    clear HH10 HS810
    go_wp2_with fail
    refine (refGet _ _ _ l id _ _ HR10.out rfl).mono ?_
    rw [HGI.out]
    rintro e w11 ⟨rfl, hb⟩
    have HR11 := Aside.mk (HR10.out.below hb)
    have HB11 := Aside.mk (below_step HB10.out hb)
    have HF11 := Aside.mk (HF10.out.below hb)
    have HG11 := Aside.mk (HG10.out.below hb)
    have HQ11 := Aside.mk (HQ10.out.below hb)
    clear hb HR10 HB10 HF10 HG10 HQ10
    obtain ⟨ad, A1, c1, A2, c2, rfl, _, x0, x1, x2, x3, _, _, _, r1, r2⟩ := ver_at HR11.out hj
    have HR1' := Aside.mk r1
    have HR2' := Aside.mk r2
    clear r1 r2
    have p0 : (0 : Int) ≤ (j : Int) := by omega
    have p1 : (j : Int) < (l.length : Int) := by omega
    have q := HQ11.out.four
    go_wp2_with fail
    generalize hq2 : w2.heap.size = g2 at *
    have HKQ := Aside.mk (show Kq2 w11 g2 gr.id gr.cats (.slice X2 gr.fields.length d2) (.slice X3 gr.refs.length d3) (ad.add (j * 5)) l[j].r.id l[j].r.cats (.slice A1 l[j].r.fields.length c1) (.slice A2 l[j].r.refs.length c2) from ⟨q.2.1, q.2.2.1, q.2.2.2.1, q.2.2.2.2.1, x0, x1, x2, x3⟩)
    go_region_held3 (fun w' => Kq2 w' g2 gr.id gr.cats (.slice X2 gr.fields.length d2) (.slice X3 gr.refs.length d3) (ad.add (j * 5)) l[j].r.id l[j].r.cats (.slice A1 l[j].r.fields.length c1) (.slice A2 l[j].r.refs.length c2))
      (first | exact HKQ.out | assumption)
      (first
       | (go_at_call 35; refine (sameRecord gr l[j].r _ _ _ _ _ _ _ _ _ _ _ _ _ (HF11.out.below (below_drewN (Below.refl _ _) 1)) (HG11.out.below (below_drewN (Below.refl _ _) 1)) (HR1'.out.below (below_drewN (Below.refl _ _) 1)) (HR2'.out.below (below_drewN (Below.refl _ _) 1))).mono ?_; rw [HX.out]; rintro e w12 ⟨rfl, hb⟩
          have hb3 := below_step (below_drewN (Below.refl w11.heap.size w11) 1) hb
          have hx := Kq2.step HKQ.out hb3
          have HB12 := Aside.mk (below_step HB11.out hb3)
          clear hb hb3))
    go_wp2
    go_ret
    exact ⟨rfl, HB12.out⟩
set_option maxHeartbeats 8000000 in
set_option maxRecDepth 100000 in
theorem storeSays_10 (A : Option Addr) (c : Nat) (l : List Ver) (cats : Int) (id : ByteArray) (ok : Nat → Prop) (w : World) (hwl : StoWf l) (hr : verR.Row w ok A l) (hc : l.length ≤ c) (h0 : storeErr l = 0) (h1 : decide (0 ≤ cats ∧ cats ≤ 255) = true ∧ 0 ≤ cats) (h2 : histL l id = []) :
    Calls Tryd.prog 6 #[.slice A l.length c, .int .i64 cats, .string id] w fun e w' => e = .returned (.bool true) ∧ Below w.heap.size w w' := by
  have HR0 := Aside.mk hr
  have HB0 := Aside.mk (Below.refl w.heap.size w)
  have HWL := Aside.mk hwl
  clear hr hwl
  obtain ⟨gr, hgr⟩ : ∃ gr, getR l id = gr := ⟨_, rfl⟩
  have HGR := Aside.mk hgr
  clear hgr
  have H1 := Aside.mk h0
  have HCV := Aside.mk (show partErr l cats = 0 ∧ partV l cats = seenL l cats by rcases cats_ways l cats h0 with ⟨a, h⟩ | ⟨a, h⟩ <;> first | exact h.out | (rw [h1.1] at a; cases a) | exact h.out)
  have HHL := Aside.mk h2
  have HHV := Aside.mk (show histErr l id = 4 ∧ histV l id = [] by rcases hist_ways l id h0 with h | ⟨a, h⟩ <;> first | exact h.out.1 | (rw [h2] at a; cases a))
  have hget := get_ways l id h0
  rw [HGR.out] at hget
  have HGW := Aside.mk hget
  clear hget h0 h2
  rcases HGW.out with h | h
  · have HGE := Aside.mk h.out.1
    obtain ⟨HGI, HX⟩ := h.out.2
    clear h HGW
    go_enter Tryd.func6, Tryd.ntmps6
    go_wp2_with fail
    refine (storePart _ c l cats _ _ HR0.out hc).mono ?_
    rw [HCV.out.1, HCV.out.2]
    rintro e w1 ⟨v1, rfl, s1, hb⟩
    obtain ⟨X1, d1, rfl, _, s1⟩ := s1
    have HR1 := Aside.mk (HR0.out.below hb)
    have HB1 := Aside.mk (below_step HB0.out hb)
    clear hb HR0 HB0
    have HP1 := Aside.mk s1
    clear s1
    go_wp2_with fail
    refine (storeGet _ c l id _ _ HR1.out hc).mono ?_
    rw [HGE.out, HGR.out]
    rintro e w2 ⟨v2, v3, rfl, s2, s3, hb⟩
    obtain ⟨X2, d2, rfl, _, s2⟩ := s2
    obtain ⟨X3, d3, rfl, _, s3⟩ := s3
    have HR2 := Aside.mk (HR1.out.below hb)
    have HB2 := Aside.mk (below_step HB1.out hb)
    have HP2 := Aside.mk (HP1.out.below hb)
    clear hb HR1 HB1 HP1
    have HF2 := Aside.mk s2
    have HG2 := Aside.mk s3
    have hb : Below w2.heap.size w2 (w2.alloc (.cells #[.string gr.id, .int .i64 gr.cats, .slice X2 gr.fields.length d2, .slice X3 gr.refs.length d3] 35)) := (Below.refl _ _).alloc (Nat.le_refl _) _
    have HR2a := Aside.mk (HR2.out.below hb)
    have HB2a := Aside.mk (below_step HB2.out hb)
    have HP2a := Aside.mk (HP2.out.below hb)
    have HF2a := Aside.mk (HF2.out.below hb)
    have HG2a := Aside.mk (HG2.out.below hb)
    clear hb HR2 HB2 HP2 HF2 HG2
    have HQ2a := Aside.mk (Bk.made w2 [.string gr.id, .int .i64 gr.cats, .slice X2 gr.fields.length d2, .slice X3 gr.refs.length d3] 35)
    clear s2 s3
    go_wp2_with fail
    refine (storeHist _ c l id _ _ HR2a.out hc).mono ?_
    rw [HHV.out.1, HHV.out.2]
    rintro e w3 ⟨v4, rfl, s4, hb⟩
    obtain ⟨X4, d4, rfl, _, s4⟩ := s4
    have HR3 := Aside.mk (HR2a.out.below hb)
    have HB3 := Aside.mk (below_step HB2a.out hb)
    have HP3 := Aside.mk (HP2a.out.below hb)
    have HF3 := Aside.mk (HF2a.out.below hb)
    have HG3 := Aside.mk (HG2a.out.below hb)
    have HQ3 := Aside.mk (HQ2a.out.below hb)
    clear hb HR2a HB2a HP2a HF2a HG2a HQ2a
    have HH3 := Aside.mk s4
    clear s4
    go_wp2_with fail
    refine (storeIds _ c l _ _ HR3.out hc).mono ?_
    rw [H1.out]
    rintro e w4 ⟨v5, rfl, s5, hb⟩
    obtain ⟨X5, d5, rfl, _, s5⟩ := s5
    have HR4 := Aside.mk (HR3.out.below hb)
    have HB4 := Aside.mk (below_step HB3.out hb)
    have HP4 := Aside.mk (HP3.out.below hb)
    have HF4 := Aside.mk (HF3.out.below hb)
    have HG4 := Aside.mk (HG3.out.below hb)
    have HQ4 := Aside.mk (HQ3.out.below hb)
    have HH4 := Aside.mk (HH3.out.below hb)
    clear hb HR3 HB3 HP3 HF3 HG3 HQ3 HH3
    have HI4 := Aside.mk s5
    clear s5
    go_wp2_with fail
    refine (refStore _ c l _ HWL.out _ HR4.out hc).mono ?_
    rw [H1.out]
    rintro e w5 ⟨rfl, hb⟩
    have HR5 := Aside.mk (HR4.out.below hb)
    have HB5 := Aside.mk (below_step HB4.out hb)
    have HP5 := Aside.mk (HP4.out.below hb)
    have HF5 := Aside.mk (HF4.out.below hb)
    have HG5 := Aside.mk (HG4.out.below hb)
    have HQ5 := Aside.mk (HQ4.out.below hb)
    have HH5 := Aside.mk (HH4.out.below hb)
    have HI5 := Aside.mk (HI4.out.below hb)
    clear hb HR4 HB4 HP4 HF4 HG4 HQ4 HH4 HI4
    go_wp2_with fail
    refine (storeCheck _ c l _ _ HR5.out hc).mono ?_
    rw [H1.out]
    rintro e w6 ⟨rfl, hb⟩
    have HR6 := Aside.mk (HR5.out.below hb)
    have HB6 := Aside.mk (below_step HB5.out hb)
    have HP6 := Aside.mk (HP5.out.below hb)
    have HF6 := Aside.mk (HF5.out.below hb)
    have HG6 := Aside.mk (HG5.out.below hb)
    have HQ6 := Aside.mk (HQ5.out.below hb)
    have HH6 := Aside.mk (HH5.out.below hb)
    have HI6 := Aside.mk (HI5.out.below hb)
    clear hb HR5 HB5 HP5 HF5 HG5 HQ5 HH5 HI5
    go_wp2_with fail
    refine (storeCheck (some ⟨w6.heap.size, 0, none⟩) 1 [verA] (fun _ => True) _ ((row_lit w6).mono fun _ _ _ => trivial) (Nat.le_refl _)).mono ?_
    rw [err_a]
    rintro e w7 ⟨rfl, hb⟩
    replace hb := below_step (w := w6) ((Below.refl _ _).alloc (Nat.le_refl _) _) hb
    have HR7 := Aside.mk (HR6.out.below hb)
    have HB7 := Aside.mk (below_step HB6.out hb)
    have HP7 := Aside.mk (HP6.out.below hb)
    have HF7 := Aside.mk (HF6.out.below hb)
    have HG7 := Aside.mk (HG6.out.below hb)
    have HQ7 := Aside.mk (HQ6.out.below hb)
    have HH7 := Aside.mk (HH6.out.below hb)
    have HI7 := Aside.mk (HI6.out.below hb)
    clear hb HR6 HB6 HP6 HF6 HG6 HQ6 HH6 HI6
    have hc1 := h1.1
    go_wp2_with (go_at_call 36; refine (refCats _ _).mono ?_; rw [h1.1]; rintro e w' ⟨rfl, rfl⟩)
    refine (refSeen _ c l cats _ _ HR7.out H1.out h1.2).mono ?_
    rintro e w7s ⟨v6, rfl, ho, hb⟩
    replace ho : verR.Own 62 w7s _ _ v6 (seenL l cats) := ho
    obtain ⟨X6, d6, rfl, _, s6⟩ := ho.sl
    clear ho
    have HR7s := Aside.mk (HR7.out.below hb)
    have HB7s := Aside.mk (below_step HB7.out hb)
    have HP7s := Aside.mk (HP7.out.below hb)
    have HF7s := Aside.mk (HF7.out.below hb)
    have HG7s := Aside.mk (HG7.out.below hb)
    have HQ7s := Aside.mk (HQ7.out.below hb)
    have HH7s := Aside.mk (HH7.out.below hb)
    have HI7s := Aside.mk (HI7.out.below hb)
    clear hb HR7 HB7 HP7 HF7 HG7 HQ7 HH7 HI7
    have HS67s := Aside.mk s6
    clear s6
    go_wp2_with fail
    refine (refSameStore _ _ _ _ _ _ (seenL l cats) (seenL l cats) _ _ _ HP7s.out HS67s.out rfl rfl).mono ?_
    rw [decide_eq_true rfl]
    rintro e w8 ⟨rfl, hb⟩
    have HR8 := Aside.mk (HR7s.out.below hb)
    have HB8 := Aside.mk (below_step HB7s.out hb)
    have HP8 := Aside.mk (HP7s.out.below hb)
    have HF8 := Aside.mk (HF7s.out.below hb)
    have HG8 := Aside.mk (HG7s.out.below hb)
    have HQ8 := Aside.mk (HQ7s.out.below hb)
    have HH8 := Aside.mk (HH7s.out.below hb)
    have HI8 := Aside.mk (HI7s.out.below hb)
    have HS68 := Aside.mk (HS67s.out.below hb)
    clear hb HR7s HB7s HP7s HF7s HG7s HQ7s HH7s HI7s HS67s
    clear HP8 HS68
    go_wp2_with fail
    refine (refIds _ c l _ _ HR8.out H1.out).mono ?_
    rintro e w8i ⟨v9, rfl, s9, hb⟩
    obtain ⟨X9, d9, rfl, _, s9⟩ := s9
    have HR8i := Aside.mk (HR8.out.below hb)
    have HB8i := Aside.mk (below_step HB8.out hb)
    have HF8i := Aside.mk (HF8.out.below hb)
    have HG8i := Aside.mk (HG8.out.below hb)
    have HQ8i := Aside.mk (HQ8.out.below hb)
    have HH8i := Aside.mk (HH8.out.below hb)
    have HI8i := Aside.mk (HI8.out.below hb)
    clear hb HR8 HB8 HF8 HG8 HQ8 HH8 HI8
    have HJ8i := Aside.mk s9
    clear s9
    go_wp2_with fail
    refine (equalSt _ _ _ _ (idsV l) (idsV l) _ _ _ HI8i.out HJ8i.out).mono ?_
    rw [decide_eq_true rfl]
    rintro e w9 ⟨rfl, hd⟩
    have hb := hd.below
    clear hd
    have HR9 := Aside.mk (HR8i.out.below hb)
    have HB9 := Aside.mk (below_step HB8i.out hb)
    have HF9 := Aside.mk (HF8i.out.below hb)
    have HG9 := Aside.mk (HG8i.out.below hb)
    have HQ9 := Aside.mk (HQ8i.out.below hb)
    have HH9 := Aside.mk (HH8i.out.below hb)
    have HI9 := Aside.mk (HI8i.out.below hb)
    have HJ9 := Aside.mk (HJ8i.out.below hb)
    clear hb HR8i HB8i HF8i HG8i HQ8i HH8i HI8i HJ8i
    clear HI9 HJ9
    go_wp2_with fail
    refine (refHist _ c l id _ _ HR9.out H1.out trivial).mono ?_
    rintro e w9h ⟨v8, rfl, ho, hb⟩
    replace ho : verR.Own 62 w9h _ _ v8 (histL l id) := ho
    rw [HHL.out] at ho
    obtain ⟨X8, d8, rfl, _, s8⟩ := ho.sl
    clear ho
    have HR9h := Aside.mk (HR9.out.below hb)
    have HB9h := Aside.mk (below_step HB9.out hb)
    have HF9h := Aside.mk (HF9.out.below hb)
    have HG9h := Aside.mk (HG9.out.below hb)
    have HQ9h := Aside.mk (HQ9.out.below hb)
    have HH9h := Aside.mk (HH9.out.below hb)
    clear hb HR9 HB9 HF9 HG9 HQ9 HH9
    have HS89h := Aside.mk s8
    clear s8
    clear HH9h HS89h
    go_wp2_with fail
    refine (refGet _ _ _ l id _ _ HR9h.out rfl).mono ?_
    rw [HGI.out]
    rintro e w11 ⟨rfl, hb⟩
    have HR11 := Aside.mk (HR9h.out.below hb)
    have HB11 := Aside.mk (below_step HB9h.out hb)
    have HF11 := Aside.mk (HF9h.out.below hb)
    have HG11 := Aside.mk (HG9h.out.below hb)
    have HQ11 := Aside.mk (HQ9h.out.below hb)
    clear hb HR9h HB9h HF9h HG9h HQ9h
    have q := HQ11.out.four
    go_wp2_with fail
    refine (sameRecord gr noRec _ _ none none _ _ 0 0 _ _ (fun _ => True) (fun _ => True) _ HF11.out HG11.out Row.nil Row.nil).mono ?_
    rw [HX.out]
    rintro e w12 ⟨rfl, hb⟩
    clear q
    have HR12 := Aside.mk (HR11.out.below hb)
    have HB12 := Aside.mk (below_step HB11.out hb)
    have HF12 := Aside.mk (HF11.out.below hb)
    have HG12 := Aside.mk (HG11.out.below hb)
    have HQ12 := Aside.mk (HQ11.out.below hb)
    clear hb HR11 HB11 HF11 HG11 HQ11
    go_wp2_with fail
    go_ret
    exact ⟨rfl, HB12.out⟩
  · have HGE := Aside.mk h.out.1
    obtain ⟨j, hj, HGI, HX⟩ := h.out.2
    clear h HGW
    go_enter Tryd.func6, Tryd.ntmps6
    go_wp2_with fail
    refine (storePart _ c l cats _ _ HR0.out hc).mono ?_
    rw [HCV.out.1, HCV.out.2]
    rintro e w1 ⟨v1, rfl, s1, hb⟩
    obtain ⟨X1, d1, rfl, _, s1⟩ := s1
    have HR1 := Aside.mk (HR0.out.below hb)
    have HB1 := Aside.mk (below_step HB0.out hb)
    clear hb HR0 HB0
    have HP1 := Aside.mk s1
    clear s1
    go_wp2_with fail
    refine (storeGet _ c l id _ _ HR1.out hc).mono ?_
    rw [HGE.out, HGR.out]
    rintro e w2 ⟨v2, v3, rfl, s2, s3, hb⟩
    obtain ⟨X2, d2, rfl, _, s2⟩ := s2
    obtain ⟨X3, d3, rfl, _, s3⟩ := s3
    have HR2 := Aside.mk (HR1.out.below hb)
    have HB2 := Aside.mk (below_step HB1.out hb)
    have HP2 := Aside.mk (HP1.out.below hb)
    clear hb HR1 HB1 HP1
    have HF2 := Aside.mk s2
    have HG2 := Aside.mk s3
    have hb : Below w2.heap.size w2 (w2.alloc (.cells #[.string gr.id, .int .i64 gr.cats, .slice X2 gr.fields.length d2, .slice X3 gr.refs.length d3] 35)) := (Below.refl _ _).alloc (Nat.le_refl _) _
    have HR2a := Aside.mk (HR2.out.below hb)
    have HB2a := Aside.mk (below_step HB2.out hb)
    have HP2a := Aside.mk (HP2.out.below hb)
    have HF2a := Aside.mk (HF2.out.below hb)
    have HG2a := Aside.mk (HG2.out.below hb)
    clear hb HR2 HB2 HP2 HF2 HG2
    have HQ2a := Aside.mk (Bk.made w2 [.string gr.id, .int .i64 gr.cats, .slice X2 gr.fields.length d2, .slice X3 gr.refs.length d3] 35)
    clear s2 s3
    go_wp2_with fail
    refine (storeHist _ c l id _ _ HR2a.out hc).mono ?_
    rw [HHV.out.1, HHV.out.2]
    rintro e w3 ⟨v4, rfl, s4, hb⟩
    obtain ⟨X4, d4, rfl, _, s4⟩ := s4
    have HR3 := Aside.mk (HR2a.out.below hb)
    have HB3 := Aside.mk (below_step HB2a.out hb)
    have HP3 := Aside.mk (HP2a.out.below hb)
    have HF3 := Aside.mk (HF2a.out.below hb)
    have HG3 := Aside.mk (HG2a.out.below hb)
    have HQ3 := Aside.mk (HQ2a.out.below hb)
    clear hb HR2a HB2a HP2a HF2a HG2a HQ2a
    have HH3 := Aside.mk s4
    clear s4
    go_wp2_with fail
    refine (storeIds _ c l _ _ HR3.out hc).mono ?_
    rw [H1.out]
    rintro e w4 ⟨v5, rfl, s5, hb⟩
    obtain ⟨X5, d5, rfl, _, s5⟩ := s5
    have HR4 := Aside.mk (HR3.out.below hb)
    have HB4 := Aside.mk (below_step HB3.out hb)
    have HP4 := Aside.mk (HP3.out.below hb)
    have HF4 := Aside.mk (HF3.out.below hb)
    have HG4 := Aside.mk (HG3.out.below hb)
    have HQ4 := Aside.mk (HQ3.out.below hb)
    have HH4 := Aside.mk (HH3.out.below hb)
    clear hb HR3 HB3 HP3 HF3 HG3 HQ3 HH3
    have HI4 := Aside.mk s5
    clear s5
    go_wp2_with fail
    refine (refStore _ c l _ HWL.out _ HR4.out hc).mono ?_
    rw [H1.out]
    rintro e w5 ⟨rfl, hb⟩
    have HR5 := Aside.mk (HR4.out.below hb)
    have HB5 := Aside.mk (below_step HB4.out hb)
    have HP5 := Aside.mk (HP4.out.below hb)
    have HF5 := Aside.mk (HF4.out.below hb)
    have HG5 := Aside.mk (HG4.out.below hb)
    have HQ5 := Aside.mk (HQ4.out.below hb)
    have HH5 := Aside.mk (HH4.out.below hb)
    have HI5 := Aside.mk (HI4.out.below hb)
    clear hb HR4 HB4 HP4 HF4 HG4 HQ4 HH4 HI4
    go_wp2_with fail
    refine (storeCheck _ c l _ _ HR5.out hc).mono ?_
    rw [H1.out]
    rintro e w6 ⟨rfl, hb⟩
    have HR6 := Aside.mk (HR5.out.below hb)
    have HB6 := Aside.mk (below_step HB5.out hb)
    have HP6 := Aside.mk (HP5.out.below hb)
    have HF6 := Aside.mk (HF5.out.below hb)
    have HG6 := Aside.mk (HG5.out.below hb)
    have HQ6 := Aside.mk (HQ5.out.below hb)
    have HH6 := Aside.mk (HH5.out.below hb)
    have HI6 := Aside.mk (HI5.out.below hb)
    clear hb HR5 HB5 HP5 HF5 HG5 HQ5 HH5 HI5
    go_wp2_with fail
    refine (storeCheck (some ⟨w6.heap.size, 0, none⟩) 1 [verA] (fun _ => True) _ ((row_lit w6).mono fun _ _ _ => trivial) (Nat.le_refl _)).mono ?_
    rw [err_a]
    rintro e w7 ⟨rfl, hb⟩
    replace hb := below_step (w := w6) ((Below.refl _ _).alloc (Nat.le_refl _) _) hb
    have HR7 := Aside.mk (HR6.out.below hb)
    have HB7 := Aside.mk (below_step HB6.out hb)
    have HP7 := Aside.mk (HP6.out.below hb)
    have HF7 := Aside.mk (HF6.out.below hb)
    have HG7 := Aside.mk (HG6.out.below hb)
    have HQ7 := Aside.mk (HQ6.out.below hb)
    have HH7 := Aside.mk (HH6.out.below hb)
    have HI7 := Aside.mk (HI6.out.below hb)
    clear hb HR6 HB6 HP6 HF6 HG6 HQ6 HH6 HI6
    have hc1 := h1.1
    go_wp2_with (go_at_call 36; refine (refCats _ _).mono ?_; rw [h1.1]; rintro e w' ⟨rfl, rfl⟩)
    refine (refSeen _ c l cats _ _ HR7.out H1.out h1.2).mono ?_
    rintro e w7s ⟨v6, rfl, ho, hb⟩
    replace ho : verR.Own 62 w7s _ _ v6 (seenL l cats) := ho
    obtain ⟨X6, d6, rfl, _, s6⟩ := ho.sl
    clear ho
    have HR7s := Aside.mk (HR7.out.below hb)
    have HB7s := Aside.mk (below_step HB7.out hb)
    have HP7s := Aside.mk (HP7.out.below hb)
    have HF7s := Aside.mk (HF7.out.below hb)
    have HG7s := Aside.mk (HG7.out.below hb)
    have HQ7s := Aside.mk (HQ7.out.below hb)
    have HH7s := Aside.mk (HH7.out.below hb)
    have HI7s := Aside.mk (HI7.out.below hb)
    clear hb HR7 HB7 HP7 HF7 HG7 HQ7 HH7 HI7
    have HS67s := Aside.mk s6
    clear s6
    go_wp2_with fail
    refine (refSameStore _ _ _ _ _ _ (seenL l cats) (seenL l cats) _ _ _ HP7s.out HS67s.out rfl rfl).mono ?_
    rw [decide_eq_true rfl]
    rintro e w8 ⟨rfl, hb⟩
    have HR8 := Aside.mk (HR7s.out.below hb)
    have HB8 := Aside.mk (below_step HB7s.out hb)
    have HP8 := Aside.mk (HP7s.out.below hb)
    have HF8 := Aside.mk (HF7s.out.below hb)
    have HG8 := Aside.mk (HG7s.out.below hb)
    have HQ8 := Aside.mk (HQ7s.out.below hb)
    have HH8 := Aside.mk (HH7s.out.below hb)
    have HI8 := Aside.mk (HI7s.out.below hb)
    have HS68 := Aside.mk (HS67s.out.below hb)
    clear hb HR7s HB7s HP7s HF7s HG7s HQ7s HH7s HI7s HS67s
    clear HP8 HS68
    go_wp2_with fail
    refine (refIds _ c l _ _ HR8.out H1.out).mono ?_
    rintro e w8i ⟨v9, rfl, s9, hb⟩
    obtain ⟨X9, d9, rfl, _, s9⟩ := s9
    have HR8i := Aside.mk (HR8.out.below hb)
    have HB8i := Aside.mk (below_step HB8.out hb)
    have HF8i := Aside.mk (HF8.out.below hb)
    have HG8i := Aside.mk (HG8.out.below hb)
    have HQ8i := Aside.mk (HQ8.out.below hb)
    have HH8i := Aside.mk (HH8.out.below hb)
    have HI8i := Aside.mk (HI8.out.below hb)
    clear hb HR8 HB8 HF8 HG8 HQ8 HH8 HI8
    have HJ8i := Aside.mk s9
    clear s9
    go_wp2_with fail
    refine (equalSt _ _ _ _ (idsV l) (idsV l) _ _ _ HI8i.out HJ8i.out).mono ?_
    rw [decide_eq_true rfl]
    rintro e w9 ⟨rfl, hd⟩
    have hb := hd.below
    clear hd
    have HR9 := Aside.mk (HR8i.out.below hb)
    have HB9 := Aside.mk (below_step HB8i.out hb)
    have HF9 := Aside.mk (HF8i.out.below hb)
    have HG9 := Aside.mk (HG8i.out.below hb)
    have HQ9 := Aside.mk (HQ8i.out.below hb)
    have HH9 := Aside.mk (HH8i.out.below hb)
    have HI9 := Aside.mk (HI8i.out.below hb)
    have HJ9 := Aside.mk (HJ8i.out.below hb)
    clear hb HR8i HB8i HF8i HG8i HQ8i HH8i HI8i HJ8i
    clear HI9 HJ9
    go_wp2_with fail
    refine (refHist _ c l id _ _ HR9.out H1.out trivial).mono ?_
    rintro e w9h ⟨v8, rfl, ho, hb⟩
    replace ho : verR.Own 62 w9h _ _ v8 (histL l id) := ho
    rw [HHL.out] at ho
    obtain ⟨X8, d8, rfl, _, s8⟩ := ho.sl
    clear ho
    have HR9h := Aside.mk (HR9.out.below hb)
    have HB9h := Aside.mk (below_step HB9.out hb)
    have HF9h := Aside.mk (HF9.out.below hb)
    have HG9h := Aside.mk (HG9.out.below hb)
    have HQ9h := Aside.mk (HQ9.out.below hb)
    have HH9h := Aside.mk (HH9.out.below hb)
    clear hb HR9 HB9 HF9 HG9 HQ9 HH9
    have HS89h := Aside.mk s8
    clear s8
    clear HH9h HS89h
    go_wp2_with fail
    refine (refGet _ _ _ l id _ _ HR9h.out rfl).mono ?_
    rw [HGI.out]
    rintro e w11 ⟨rfl, hb⟩
    have HR11 := Aside.mk (HR9h.out.below hb)
    have HB11 := Aside.mk (below_step HB9h.out hb)
    have HF11 := Aside.mk (HF9h.out.below hb)
    have HG11 := Aside.mk (HG9h.out.below hb)
    have HQ11 := Aside.mk (HQ9h.out.below hb)
    clear hb HR9h HB9h HF9h HG9h HQ9h
    obtain ⟨ad, A1, c1, A2, c2, rfl, _, x0, x1, x2, x3, _, _, _, r1, r2⟩ := ver_at HR11.out hj
    have HR1' := Aside.mk r1
    have HR2' := Aside.mk r2
    clear r1 r2
    have p0 : (0 : Int) ≤ (j : Int) := by omega
    have p1 : (j : Int) < (l.length : Int) := by omega
    have q := HQ11.out.four
    go_wp2_with fail
    generalize hq2 : w2.heap.size = g2 at *
    have HKQ := Aside.mk (show Kq2 w11 g2 gr.id gr.cats (.slice X2 gr.fields.length d2) (.slice X3 gr.refs.length d3) (ad.add (j * 5)) l[j].r.id l[j].r.cats (.slice A1 l[j].r.fields.length c1) (.slice A2 l[j].r.refs.length c2) from ⟨q.2.1, q.2.2.1, q.2.2.2.1, q.2.2.2.2.1, x0, x1, x2, x3⟩)
    go_region_held3 (fun w' => Kq2 w' g2 gr.id gr.cats (.slice X2 gr.fields.length d2) (.slice X3 gr.refs.length d3) (ad.add (j * 5)) l[j].r.id l[j].r.cats (.slice A1 l[j].r.fields.length c1) (.slice A2 l[j].r.refs.length c2))
      (first | exact HKQ.out | assumption)
      (first
       | (go_at_call 35; refine (sameRecord gr l[j].r _ _ _ _ _ _ _ _ _ _ _ _ _ (HF11.out.below (below_drewN (Below.refl _ _) 1)) (HG11.out.below (below_drewN (Below.refl _ _) 1)) (HR1'.out.below (below_drewN (Below.refl _ _) 1)) (HR2'.out.below (below_drewN (Below.refl _ _) 1))).mono ?_; rw [HX.out]; rintro e w12 ⟨rfl, hb⟩
          have hb3 := below_step (below_drewN (Below.refl w11.heap.size w11) 1) hb
          have hx := Kq2.step HKQ.out hb3
          have HB12 := Aside.mk (below_step HB11.out hb3)
          clear hb hb3))
    go_wp2
    go_ret
    exact ⟨rfl, HB12.out⟩
set_option maxHeartbeats 8000000 in
set_option maxRecDepth 100000 in
theorem storeSays_11 (A : Option Addr) (c : Nat) (l : List Ver) (cats : Int) (id : ByteArray) (ok : Nat → Prop) (w : World) (hwl : StoWf l) (hr : verR.Row w ok A l) (hc : l.length ≤ c) (h0 : storeErr l = 0) (h1 : decide (0 ≤ cats ∧ cats ≤ 255) = true ∧ 0 ≤ cats) (h2 : ((((histL l id).length : Nat) : Int) == 0) = false) :
    Calls Tryd.prog 6 #[.slice A l.length c, .int .i64 cats, .string id] w fun e w' => e = .returned (.bool true) ∧ Below w.heap.size w w' := by
  have HR0 := Aside.mk hr
  have HB0 := Aside.mk (Below.refl w.heap.size w)
  have HWL := Aside.mk hwl
  clear hr hwl
  obtain ⟨gr, hgr⟩ : ∃ gr, getR l id = gr := ⟨_, rfl⟩
  have HGR := Aside.mk hgr
  clear hgr
  have H1 := Aside.mk h0
  have HCV := Aside.mk (show partErr l cats = 0 ∧ partV l cats = seenL l cats by rcases cats_ways l cats h0 with ⟨a, h⟩ | ⟨a, h⟩ <;> first | exact h.out | (rw [h1.1] at a; cases a) | exact h.out)
  have HHV := Aside.mk (show histErr l id = 0 ∧ histV l id = histL l id by rcases hist_ways l id h0 with h | ⟨_, h⟩ <;> first | exact h.out | (rw [h.out.2] at h2; cases h2))
  have hget := get_ways l id h0
  rw [HGR.out] at hget
  have HGW := Aside.mk hget
  clear hget h0
  rcases HGW.out with h | h
  · have HGE := Aside.mk h.out.1
    obtain ⟨HGI, HX⟩ := h.out.2
    clear h HGW
    go_enter Tryd.func6, Tryd.ntmps6
    go_wp2_with fail
    refine (storePart _ c l cats _ _ HR0.out hc).mono ?_
    rw [HCV.out.1, HCV.out.2]
    rintro e w1 ⟨v1, rfl, s1, hb⟩
    obtain ⟨X1, d1, rfl, _, s1⟩ := s1
    have HR1 := Aside.mk (HR0.out.below hb)
    have HB1 := Aside.mk (below_step HB0.out hb)
    clear hb HR0 HB0
    have HP1 := Aside.mk s1
    clear s1
    go_wp2_with fail
    refine (storeGet _ c l id _ _ HR1.out hc).mono ?_
    rw [HGE.out, HGR.out]
    rintro e w2 ⟨v2, v3, rfl, s2, s3, hb⟩
    obtain ⟨X2, d2, rfl, _, s2⟩ := s2
    obtain ⟨X3, d3, rfl, _, s3⟩ := s3
    have HR2 := Aside.mk (HR1.out.below hb)
    have HB2 := Aside.mk (below_step HB1.out hb)
    have HP2 := Aside.mk (HP1.out.below hb)
    clear hb HR1 HB1 HP1
    have HF2 := Aside.mk s2
    have HG2 := Aside.mk s3
    have hb : Below w2.heap.size w2 (w2.alloc (.cells #[.string gr.id, .int .i64 gr.cats, .slice X2 gr.fields.length d2, .slice X3 gr.refs.length d3] 35)) := (Below.refl _ _).alloc (Nat.le_refl _) _
    have HR2a := Aside.mk (HR2.out.below hb)
    have HB2a := Aside.mk (below_step HB2.out hb)
    have HP2a := Aside.mk (HP2.out.below hb)
    have HF2a := Aside.mk (HF2.out.below hb)
    have HG2a := Aside.mk (HG2.out.below hb)
    clear hb HR2 HB2 HP2 HF2 HG2
    have HQ2a := Aside.mk (Bk.made w2 [.string gr.id, .int .i64 gr.cats, .slice X2 gr.fields.length d2, .slice X3 gr.refs.length d3] 35)
    clear s2 s3
    go_wp2_with fail
    refine (storeHist _ c l id _ _ HR2a.out hc).mono ?_
    rw [HHV.out.1, HHV.out.2]
    rintro e w3 ⟨v4, rfl, s4, hb⟩
    obtain ⟨X4, d4, rfl, _, s4⟩ := s4
    have HR3 := Aside.mk (HR2a.out.below hb)
    have HB3 := Aside.mk (below_step HB2a.out hb)
    have HP3 := Aside.mk (HP2a.out.below hb)
    have HF3 := Aside.mk (HF2a.out.below hb)
    have HG3 := Aside.mk (HG2a.out.below hb)
    have HQ3 := Aside.mk (HQ2a.out.below hb)
    clear hb HR2a HB2a HP2a HF2a HG2a HQ2a
    have HH3 := Aside.mk s4
    clear s4
    go_wp2_with fail
    refine (storeIds _ c l _ _ HR3.out hc).mono ?_
    rw [H1.out]
    rintro e w4 ⟨v5, rfl, s5, hb⟩
    obtain ⟨X5, d5, rfl, _, s5⟩ := s5
    have HR4 := Aside.mk (HR3.out.below hb)
    have HB4 := Aside.mk (below_step HB3.out hb)
    have HP4 := Aside.mk (HP3.out.below hb)
    have HF4 := Aside.mk (HF3.out.below hb)
    have HG4 := Aside.mk (HG3.out.below hb)
    have HQ4 := Aside.mk (HQ3.out.below hb)
    have HH4 := Aside.mk (HH3.out.below hb)
    clear hb HR3 HB3 HP3 HF3 HG3 HQ3 HH3
    have HI4 := Aside.mk s5
    clear s5
    go_wp2_with fail
    refine (refStore _ c l _ HWL.out _ HR4.out hc).mono ?_
    rw [H1.out]
    rintro e w5 ⟨rfl, hb⟩
    have HR5 := Aside.mk (HR4.out.below hb)
    have HB5 := Aside.mk (below_step HB4.out hb)
    have HP5 := Aside.mk (HP4.out.below hb)
    have HF5 := Aside.mk (HF4.out.below hb)
    have HG5 := Aside.mk (HG4.out.below hb)
    have HQ5 := Aside.mk (HQ4.out.below hb)
    have HH5 := Aside.mk (HH4.out.below hb)
    have HI5 := Aside.mk (HI4.out.below hb)
    clear hb HR4 HB4 HP4 HF4 HG4 HQ4 HH4 HI4
    go_wp2_with fail
    refine (storeCheck _ c l _ _ HR5.out hc).mono ?_
    rw [H1.out]
    rintro e w6 ⟨rfl, hb⟩
    have HR6 := Aside.mk (HR5.out.below hb)
    have HB6 := Aside.mk (below_step HB5.out hb)
    have HP6 := Aside.mk (HP5.out.below hb)
    have HF6 := Aside.mk (HF5.out.below hb)
    have HG6 := Aside.mk (HG5.out.below hb)
    have HQ6 := Aside.mk (HQ5.out.below hb)
    have HH6 := Aside.mk (HH5.out.below hb)
    have HI6 := Aside.mk (HI5.out.below hb)
    clear hb HR5 HB5 HP5 HF5 HG5 HQ5 HH5 HI5
    go_wp2_with fail
    refine (storeCheck (some ⟨w6.heap.size, 0, none⟩) 1 [verA] (fun _ => True) _ ((row_lit w6).mono fun _ _ _ => trivial) (Nat.le_refl _)).mono ?_
    rw [err_a]
    rintro e w7 ⟨rfl, hb⟩
    replace hb := below_step (w := w6) ((Below.refl _ _).alloc (Nat.le_refl _) _) hb
    have HR7 := Aside.mk (HR6.out.below hb)
    have HB7 := Aside.mk (below_step HB6.out hb)
    have HP7 := Aside.mk (HP6.out.below hb)
    have HF7 := Aside.mk (HF6.out.below hb)
    have HG7 := Aside.mk (HG6.out.below hb)
    have HQ7 := Aside.mk (HQ6.out.below hb)
    have HH7 := Aside.mk (HH6.out.below hb)
    have HI7 := Aside.mk (HI6.out.below hb)
    clear hb HR6 HB6 HP6 HF6 HG6 HQ6 HH6 HI6
    have hc1 := h1.1
    go_wp2_with (go_at_call 36; refine (refCats _ _).mono ?_; rw [h1.1]; rintro e w' ⟨rfl, rfl⟩)
    refine (refSeen _ c l cats _ _ HR7.out H1.out h1.2).mono ?_
    rintro e w7s ⟨v6, rfl, ho, hb⟩
    replace ho : verR.Own 62 w7s _ _ v6 (seenL l cats) := ho
    obtain ⟨X6, d6, rfl, _, s6⟩ := ho.sl
    clear ho
    have HR7s := Aside.mk (HR7.out.below hb)
    have HB7s := Aside.mk (below_step HB7.out hb)
    have HP7s := Aside.mk (HP7.out.below hb)
    have HF7s := Aside.mk (HF7.out.below hb)
    have HG7s := Aside.mk (HG7.out.below hb)
    have HQ7s := Aside.mk (HQ7.out.below hb)
    have HH7s := Aside.mk (HH7.out.below hb)
    have HI7s := Aside.mk (HI7.out.below hb)
    clear hb HR7 HB7 HP7 HF7 HG7 HQ7 HH7 HI7
    have HS67s := Aside.mk s6
    clear s6
    go_wp2_with fail
    refine (refSameStore _ _ _ _ _ _ (seenL l cats) (seenL l cats) _ _ _ HP7s.out HS67s.out rfl rfl).mono ?_
    rw [decide_eq_true rfl]
    rintro e w8 ⟨rfl, hb⟩
    have HR8 := Aside.mk (HR7s.out.below hb)
    have HB8 := Aside.mk (below_step HB7s.out hb)
    have HP8 := Aside.mk (HP7s.out.below hb)
    have HF8 := Aside.mk (HF7s.out.below hb)
    have HG8 := Aside.mk (HG7s.out.below hb)
    have HQ8 := Aside.mk (HQ7s.out.below hb)
    have HH8 := Aside.mk (HH7s.out.below hb)
    have HI8 := Aside.mk (HI7s.out.below hb)
    have HS68 := Aside.mk (HS67s.out.below hb)
    clear hb HR7s HB7s HP7s HF7s HG7s HQ7s HH7s HI7s HS67s
    clear HP8 HS68
    go_wp2_with fail
    refine (refIds _ c l _ _ HR8.out H1.out).mono ?_
    rintro e w8i ⟨v9, rfl, s9, hb⟩
    obtain ⟨X9, d9, rfl, _, s9⟩ := s9
    have HR8i := Aside.mk (HR8.out.below hb)
    have HB8i := Aside.mk (below_step HB8.out hb)
    have HF8i := Aside.mk (HF8.out.below hb)
    have HG8i := Aside.mk (HG8.out.below hb)
    have HQ8i := Aside.mk (HQ8.out.below hb)
    have HH8i := Aside.mk (HH8.out.below hb)
    have HI8i := Aside.mk (HI8.out.below hb)
    clear hb HR8 HB8 HF8 HG8 HQ8 HH8 HI8
    have HJ8i := Aside.mk s9
    clear s9
    go_wp2_with fail
    refine (equalSt _ _ _ _ (idsV l) (idsV l) _ _ _ HI8i.out HJ8i.out).mono ?_
    rw [decide_eq_true rfl]
    rintro e w9 ⟨rfl, hd⟩
    have hb := hd.below
    clear hd
    have HR9 := Aside.mk (HR8i.out.below hb)
    have HB9 := Aside.mk (below_step HB8i.out hb)
    have HF9 := Aside.mk (HF8i.out.below hb)
    have HG9 := Aside.mk (HG8i.out.below hb)
    have HQ9 := Aside.mk (HQ8i.out.below hb)
    have HH9 := Aside.mk (HH8i.out.below hb)
    have HI9 := Aside.mk (HI8i.out.below hb)
    have HJ9 := Aside.mk (HJ8i.out.below hb)
    clear hb HR8i HB8i HF8i HG8i HQ8i HH8i HI8i HJ8i
    clear HI9 HJ9
    go_wp2_with fail
    refine (refHist _ c l id _ _ HR9.out H1.out trivial).mono ?_
    rintro e w9h ⟨v8, rfl, ho, hb⟩
    replace ho : verR.Own 62 w9h _ _ v8 (histL l id) := ho
    obtain ⟨X8, d8, rfl, _, s8⟩ := ho.sl
    clear ho
    have HR9h := Aside.mk (HR9.out.below hb)
    have HB9h := Aside.mk (below_step HB9.out hb)
    have HF9h := Aside.mk (HF9.out.below hb)
    have HG9h := Aside.mk (HG9.out.below hb)
    have HQ9h := Aside.mk (HQ9.out.below hb)
    have HH9h := Aside.mk (HH9.out.below hb)
    clear hb HR9 HB9 HF9 HG9 HQ9 HH9
    have HS89h := Aside.mk s8
    clear s8
    go_wp2_with fail
    refine (refSameStore _ _ _ _ _ _ (histL l id) (histL l id) _ _ _ HH9h.out HS89h.out rfl rfl).mono ?_
    rw [decide_eq_true rfl]
    rintro e w10 ⟨rfl, hb⟩
    have HR10 := Aside.mk (HR9h.out.below hb)
    have HB10 := Aside.mk (below_step HB9h.out hb)
    have HF10 := Aside.mk (HF9h.out.below hb)
    have HG10 := Aside.mk (HG9h.out.below hb)
    have HQ10 := Aside.mk (HQ9h.out.below hb)
    have HH10 := Aside.mk (HH9h.out.below hb)
    have HS810 := Aside.mk (HS89h.out.below hb)
    clear hb HR9h HB9h HF9h HG9h HQ9h HH9h HS89h
    clear HH10 HS810
    go_wp2_with fail
    refine (refGet _ _ _ l id _ _ HR10.out rfl).mono ?_
    rw [HGI.out]
    rintro e w11 ⟨rfl, hb⟩
    have HR11 := Aside.mk (HR10.out.below hb)
    have HB11 := Aside.mk (below_step HB10.out hb)
    have HF11 := Aside.mk (HF10.out.below hb)
    have HG11 := Aside.mk (HG10.out.below hb)
    have HQ11 := Aside.mk (HQ10.out.below hb)
    clear hb HR10 HB10 HF10 HG10 HQ10
    have q := HQ11.out.four
    go_wp2_with fail
    refine (sameRecord gr noRec _ _ none none _ _ 0 0 _ _ (fun _ => True) (fun _ => True) _ HF11.out HG11.out Row.nil Row.nil).mono ?_
    rw [HX.out]
    rintro e w12 ⟨rfl, hb⟩
    clear q
    have HR12 := Aside.mk (HR11.out.below hb)
    have HB12 := Aside.mk (below_step HB11.out hb)
    have HF12 := Aside.mk (HF11.out.below hb)
    have HG12 := Aside.mk (HG11.out.below hb)
    have HQ12 := Aside.mk (HQ11.out.below hb)
    clear hb HR11 HB11 HF11 HG11 HQ11
    go_wp2_with fail
    go_ret
    exact ⟨rfl, HB12.out⟩
  · have HGE := Aside.mk h.out.1
    obtain ⟨j, hj, HGI, HX⟩ := h.out.2
    clear h HGW
    go_enter Tryd.func6, Tryd.ntmps6
    go_wp2_with fail
    refine (storePart _ c l cats _ _ HR0.out hc).mono ?_
    rw [HCV.out.1, HCV.out.2]
    rintro e w1 ⟨v1, rfl, s1, hb⟩
    obtain ⟨X1, d1, rfl, _, s1⟩ := s1
    have HR1 := Aside.mk (HR0.out.below hb)
    have HB1 := Aside.mk (below_step HB0.out hb)
    clear hb HR0 HB0
    have HP1 := Aside.mk s1
    clear s1
    go_wp2_with fail
    refine (storeGet _ c l id _ _ HR1.out hc).mono ?_
    rw [HGE.out, HGR.out]
    rintro e w2 ⟨v2, v3, rfl, s2, s3, hb⟩
    obtain ⟨X2, d2, rfl, _, s2⟩ := s2
    obtain ⟨X3, d3, rfl, _, s3⟩ := s3
    have HR2 := Aside.mk (HR1.out.below hb)
    have HB2 := Aside.mk (below_step HB1.out hb)
    have HP2 := Aside.mk (HP1.out.below hb)
    clear hb HR1 HB1 HP1
    have HF2 := Aside.mk s2
    have HG2 := Aside.mk s3
    have hb : Below w2.heap.size w2 (w2.alloc (.cells #[.string gr.id, .int .i64 gr.cats, .slice X2 gr.fields.length d2, .slice X3 gr.refs.length d3] 35)) := (Below.refl _ _).alloc (Nat.le_refl _) _
    have HR2a := Aside.mk (HR2.out.below hb)
    have HB2a := Aside.mk (below_step HB2.out hb)
    have HP2a := Aside.mk (HP2.out.below hb)
    have HF2a := Aside.mk (HF2.out.below hb)
    have HG2a := Aside.mk (HG2.out.below hb)
    clear hb HR2 HB2 HP2 HF2 HG2
    have HQ2a := Aside.mk (Bk.made w2 [.string gr.id, .int .i64 gr.cats, .slice X2 gr.fields.length d2, .slice X3 gr.refs.length d3] 35)
    clear s2 s3
    go_wp2_with fail
    refine (storeHist _ c l id _ _ HR2a.out hc).mono ?_
    rw [HHV.out.1, HHV.out.2]
    rintro e w3 ⟨v4, rfl, s4, hb⟩
    obtain ⟨X4, d4, rfl, _, s4⟩ := s4
    have HR3 := Aside.mk (HR2a.out.below hb)
    have HB3 := Aside.mk (below_step HB2a.out hb)
    have HP3 := Aside.mk (HP2a.out.below hb)
    have HF3 := Aside.mk (HF2a.out.below hb)
    have HG3 := Aside.mk (HG2a.out.below hb)
    have HQ3 := Aside.mk (HQ2a.out.below hb)
    clear hb HR2a HB2a HP2a HF2a HG2a HQ2a
    have HH3 := Aside.mk s4
    clear s4
    go_wp2_with fail
    refine (storeIds _ c l _ _ HR3.out hc).mono ?_
    rw [H1.out]
    rintro e w4 ⟨v5, rfl, s5, hb⟩
    obtain ⟨X5, d5, rfl, _, s5⟩ := s5
    have HR4 := Aside.mk (HR3.out.below hb)
    have HB4 := Aside.mk (below_step HB3.out hb)
    have HP4 := Aside.mk (HP3.out.below hb)
    have HF4 := Aside.mk (HF3.out.below hb)
    have HG4 := Aside.mk (HG3.out.below hb)
    have HQ4 := Aside.mk (HQ3.out.below hb)
    have HH4 := Aside.mk (HH3.out.below hb)
    clear hb HR3 HB3 HP3 HF3 HG3 HQ3 HH3
    have HI4 := Aside.mk s5
    clear s5
    go_wp2_with fail
    refine (refStore _ c l _ HWL.out _ HR4.out hc).mono ?_
    rw [H1.out]
    rintro e w5 ⟨rfl, hb⟩
    have HR5 := Aside.mk (HR4.out.below hb)
    have HB5 := Aside.mk (below_step HB4.out hb)
    have HP5 := Aside.mk (HP4.out.below hb)
    have HF5 := Aside.mk (HF4.out.below hb)
    have HG5 := Aside.mk (HG4.out.below hb)
    have HQ5 := Aside.mk (HQ4.out.below hb)
    have HH5 := Aside.mk (HH4.out.below hb)
    have HI5 := Aside.mk (HI4.out.below hb)
    clear hb HR4 HB4 HP4 HF4 HG4 HQ4 HH4 HI4
    go_wp2_with fail
    refine (storeCheck _ c l _ _ HR5.out hc).mono ?_
    rw [H1.out]
    rintro e w6 ⟨rfl, hb⟩
    have HR6 := Aside.mk (HR5.out.below hb)
    have HB6 := Aside.mk (below_step HB5.out hb)
    have HP6 := Aside.mk (HP5.out.below hb)
    have HF6 := Aside.mk (HF5.out.below hb)
    have HG6 := Aside.mk (HG5.out.below hb)
    have HQ6 := Aside.mk (HQ5.out.below hb)
    have HH6 := Aside.mk (HH5.out.below hb)
    have HI6 := Aside.mk (HI5.out.below hb)
    clear hb HR5 HB5 HP5 HF5 HG5 HQ5 HH5 HI5
    go_wp2_with fail
    refine (storeCheck (some ⟨w6.heap.size, 0, none⟩) 1 [verA] (fun _ => True) _ ((row_lit w6).mono fun _ _ _ => trivial) (Nat.le_refl _)).mono ?_
    rw [err_a]
    rintro e w7 ⟨rfl, hb⟩
    replace hb := below_step (w := w6) ((Below.refl _ _).alloc (Nat.le_refl _) _) hb
    have HR7 := Aside.mk (HR6.out.below hb)
    have HB7 := Aside.mk (below_step HB6.out hb)
    have HP7 := Aside.mk (HP6.out.below hb)
    have HF7 := Aside.mk (HF6.out.below hb)
    have HG7 := Aside.mk (HG6.out.below hb)
    have HQ7 := Aside.mk (HQ6.out.below hb)
    have HH7 := Aside.mk (HH6.out.below hb)
    have HI7 := Aside.mk (HI6.out.below hb)
    clear hb HR6 HB6 HP6 HF6 HG6 HQ6 HH6 HI6
    have hc1 := h1.1
    go_wp2_with (go_at_call 36; refine (refCats _ _).mono ?_; rw [h1.1]; rintro e w' ⟨rfl, rfl⟩)
    refine (refSeen _ c l cats _ _ HR7.out H1.out h1.2).mono ?_
    rintro e w7s ⟨v6, rfl, ho, hb⟩
    replace ho : verR.Own 62 w7s _ _ v6 (seenL l cats) := ho
    obtain ⟨X6, d6, rfl, _, s6⟩ := ho.sl
    clear ho
    have HR7s := Aside.mk (HR7.out.below hb)
    have HB7s := Aside.mk (below_step HB7.out hb)
    have HP7s := Aside.mk (HP7.out.below hb)
    have HF7s := Aside.mk (HF7.out.below hb)
    have HG7s := Aside.mk (HG7.out.below hb)
    have HQ7s := Aside.mk (HQ7.out.below hb)
    have HH7s := Aside.mk (HH7.out.below hb)
    have HI7s := Aside.mk (HI7.out.below hb)
    clear hb HR7 HB7 HP7 HF7 HG7 HQ7 HH7 HI7
    have HS67s := Aside.mk s6
    clear s6
    go_wp2_with fail
    refine (refSameStore _ _ _ _ _ _ (seenL l cats) (seenL l cats) _ _ _ HP7s.out HS67s.out rfl rfl).mono ?_
    rw [decide_eq_true rfl]
    rintro e w8 ⟨rfl, hb⟩
    have HR8 := Aside.mk (HR7s.out.below hb)
    have HB8 := Aside.mk (below_step HB7s.out hb)
    have HP8 := Aside.mk (HP7s.out.below hb)
    have HF8 := Aside.mk (HF7s.out.below hb)
    have HG8 := Aside.mk (HG7s.out.below hb)
    have HQ8 := Aside.mk (HQ7s.out.below hb)
    have HH8 := Aside.mk (HH7s.out.below hb)
    have HI8 := Aside.mk (HI7s.out.below hb)
    have HS68 := Aside.mk (HS67s.out.below hb)
    clear hb HR7s HB7s HP7s HF7s HG7s HQ7s HH7s HI7s HS67s
    clear HP8 HS68
    go_wp2_with fail
    refine (refIds _ c l _ _ HR8.out H1.out).mono ?_
    rintro e w8i ⟨v9, rfl, s9, hb⟩
    obtain ⟨X9, d9, rfl, _, s9⟩ := s9
    have HR8i := Aside.mk (HR8.out.below hb)
    have HB8i := Aside.mk (below_step HB8.out hb)
    have HF8i := Aside.mk (HF8.out.below hb)
    have HG8i := Aside.mk (HG8.out.below hb)
    have HQ8i := Aside.mk (HQ8.out.below hb)
    have HH8i := Aside.mk (HH8.out.below hb)
    have HI8i := Aside.mk (HI8.out.below hb)
    clear hb HR8 HB8 HF8 HG8 HQ8 HH8 HI8
    have HJ8i := Aside.mk s9
    clear s9
    go_wp2_with fail
    refine (equalSt _ _ _ _ (idsV l) (idsV l) _ _ _ HI8i.out HJ8i.out).mono ?_
    rw [decide_eq_true rfl]
    rintro e w9 ⟨rfl, hd⟩
    have hb := hd.below
    clear hd
    have HR9 := Aside.mk (HR8i.out.below hb)
    have HB9 := Aside.mk (below_step HB8i.out hb)
    have HF9 := Aside.mk (HF8i.out.below hb)
    have HG9 := Aside.mk (HG8i.out.below hb)
    have HQ9 := Aside.mk (HQ8i.out.below hb)
    have HH9 := Aside.mk (HH8i.out.below hb)
    have HI9 := Aside.mk (HI8i.out.below hb)
    have HJ9 := Aside.mk (HJ8i.out.below hb)
    clear hb HR8i HB8i HF8i HG8i HQ8i HH8i HI8i HJ8i
    clear HI9 HJ9
    go_wp2_with fail
    refine (refHist _ c l id _ _ HR9.out H1.out trivial).mono ?_
    rintro e w9h ⟨v8, rfl, ho, hb⟩
    replace ho : verR.Own 62 w9h _ _ v8 (histL l id) := ho
    obtain ⟨X8, d8, rfl, _, s8⟩ := ho.sl
    clear ho
    have HR9h := Aside.mk (HR9.out.below hb)
    have HB9h := Aside.mk (below_step HB9.out hb)
    have HF9h := Aside.mk (HF9.out.below hb)
    have HG9h := Aside.mk (HG9.out.below hb)
    have HQ9h := Aside.mk (HQ9.out.below hb)
    have HH9h := Aside.mk (HH9.out.below hb)
    clear hb HR9 HB9 HF9 HG9 HQ9 HH9
    have HS89h := Aside.mk s8
    clear s8
    go_wp2_with fail
    refine (refSameStore _ _ _ _ _ _ (histL l id) (histL l id) _ _ _ HH9h.out HS89h.out rfl rfl).mono ?_
    rw [decide_eq_true rfl]
    rintro e w10 ⟨rfl, hb⟩
    have HR10 := Aside.mk (HR9h.out.below hb)
    have HB10 := Aside.mk (below_step HB9h.out hb)
    have HF10 := Aside.mk (HF9h.out.below hb)
    have HG10 := Aside.mk (HG9h.out.below hb)
    have HQ10 := Aside.mk (HQ9h.out.below hb)
    have HH10 := Aside.mk (HH9h.out.below hb)
    have HS810 := Aside.mk (HS89h.out.below hb)
    clear hb HR9h HB9h HF9h HG9h HQ9h HH9h HS89h
    clear HH10 HS810
    go_wp2_with fail
    refine (refGet _ _ _ l id _ _ HR10.out rfl).mono ?_
    rw [HGI.out]
    rintro e w11 ⟨rfl, hb⟩
    have HR11 := Aside.mk (HR10.out.below hb)
    have HB11 := Aside.mk (below_step HB10.out hb)
    have HF11 := Aside.mk (HF10.out.below hb)
    have HG11 := Aside.mk (HG10.out.below hb)
    have HQ11 := Aside.mk (HQ10.out.below hb)
    clear hb HR10 HB10 HF10 HG10 HQ10
    obtain ⟨ad, A1, c1, A2, c2, rfl, _, x0, x1, x2, x3, _, _, _, r1, r2⟩ := ver_at HR11.out hj
    have HR1' := Aside.mk r1
    have HR2' := Aside.mk r2
    clear r1 r2
    have p0 : (0 : Int) ≤ (j : Int) := by omega
    have p1 : (j : Int) < (l.length : Int) := by omega
    have q := HQ11.out.four
    go_wp2_with fail
    generalize hq2 : w2.heap.size = g2 at *
    have HKQ := Aside.mk (show Kq2 w11 g2 gr.id gr.cats (.slice X2 gr.fields.length d2) (.slice X3 gr.refs.length d3) (ad.add (j * 5)) l[j].r.id l[j].r.cats (.slice A1 l[j].r.fields.length c1) (.slice A2 l[j].r.refs.length c2) from ⟨q.2.1, q.2.2.1, q.2.2.2.1, q.2.2.2.2.1, x0, x1, x2, x3⟩)
    go_region_held3 (fun w' => Kq2 w' g2 gr.id gr.cats (.slice X2 gr.fields.length d2) (.slice X3 gr.refs.length d3) (ad.add (j * 5)) l[j].r.id l[j].r.cats (.slice A1 l[j].r.fields.length c1) (.slice A2 l[j].r.refs.length c2))
      (first | exact HKQ.out | assumption)
      (first
       | (go_at_call 35; refine (sameRecord gr l[j].r _ _ _ _ _ _ _ _ _ _ _ _ _ (HF11.out.below (below_drewN (Below.refl _ _) 1)) (HG11.out.below (below_drewN (Below.refl _ _) 1)) (HR1'.out.below (below_drewN (Below.refl _ _) 1)) (HR2'.out.below (below_drewN (Below.refl _ _) 1))).mono ?_; rw [HX.out]; rintro e w12 ⟨rfl, hb⟩
          have hb3 := below_step (below_drewN (Below.refl w11.heap.size w11) 1) hb
          have hx := Kq2.step HKQ.out hb3
          have HB12 := Aside.mk (below_step HB11.out hb3)
          clear hb hb3))
    go_wp2
    go_ret
    exact ⟨rfl, HB12.out⟩
theorem storeSaysL (A : Option Addr) (c : Nat) (l : List Ver) (cats : Int) (id : ByteArray) (ok : Nat → Prop) (w : World) (hwl : StoWf l) (hr : verR.Row w ok A l) (hc : l.length ≤ c) :
    Calls Tryd.prog 6 #[.slice A l.length c, .int .i64 cats, .string id] w fun e w' => e = .returned (.bool true) ∧ Below w.heap.size w w' := by
  by_cases h0 : storeErr l = 0
  · rcases cats_ways l cats h0 with ⟨h1, _⟩ | ⟨h1, _⟩ <;> rcases hist_ways l id h0 with h2 | ⟨h2, _⟩
    · exact storeSays_00 A c l cats id ok w hwl hr hc h0 h1 h2.out.2
    · exact storeSays_01 A c l cats id ok w hwl hr hc h0 h1 h2
    · exact storeSays_10 A c l cats id ok w hwl hr hc h0 h1 h2.out.2
    · exact storeSays_11 A c l cats id ok w hwl hr hc h0 h1 h2
  · exact storeSays_bad A c l cats id ok w hwl hr hc (by simpa using h0)
end Go.Proofs.WK
