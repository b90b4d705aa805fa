/-
  The law FindSays, walked: it returns true. (Printed by genfind.py.)
-/
import Derived.Test.YtljjiicjnoljbaaDoorRefWith
import Derived.Test.YtljjiicjnoljbaaDoorRefSto
import Derived.Test.YtljjiicjnoljbaaDoorFindWith
import Derived.Test.YtljjiicjnoljbaaDoorSame
namespace Go.Proofs.WK
open Go.RowKit Rp
def verB : Ver := ⟨⟨⟨#[97]⟩, 0, [], []⟩, false⟩
def aS : ByteArray := ⟨#[97]⟩
theorem ids_b : idsV [verB] = [aS] := by
  rw [idsV, if_pos (by decide +kernel), show idsK [verB] [verB].length = [aS] by decide +kernel]
  simp [sortS, aS]
theorem with_b : withErr [verB] [aS] = 0 ∧ withV [verB] [aS] = [aS] := by
  have e : withErr [verB] [aS] = 0 := by decide +kernel
  refine ⟨e, ?_⟩
  rw [withV, if_pos e, with_eq (by decide +kernel), ids_b]
  decide +kernel
theorem row_litB (w : World) : verR.Row (w.alloc (.cells #[.string ⟨#[97]⟩, .int .i64 0, .slice none 0 0, .slice none 0 0, .bool false] 62)) (fun k => True ∨ (Value.slice (some ⟨w.heap.size, 0, none⟩) 1 1).ownBlock = some k) (some ⟨w.heap.size, 0, none⟩) [verB] := by
  have hk : verR.K w (fun _ => True) verB [.string ⟨#[97]⟩, .int .i64 0, .slice none 0 0, .slice none 0 0, .bool false] := verK.2 ⟨_, _, rfl, Sl.nil _ _ _, Sl.nil _ _ _⟩
  have h0 : Reps (verR.K w (fun _ => True)) verR.sz [] [] := ⟨by simp, fun j p h => by simp at h⟩
  exact (Own.lit verR 62 w 0 (fun _ => True) (Nat.zero_le _) (h0.snoc hk rfl) (by simp)).row.2.2
theorem own_lit1 (t : TypeId) (w : World) (base : Nat) (ok : Nat → Prop) (hb : base ≤ w.heap.size) (x : ByteArray) : str.Own t (w.alloc (.cells #[.string x] t)) base ok (.slice (some ⟨w.heap.size, 0, none⟩) 1 1) [x] :=
  Own.lit str t w base ok hb (reps_str w ok [x]) (by simp)
theorem with_ways (l : List Ver) (args : List ByteArray) (h : storeErr l = 0) : ((decide ((60 : Int) < (args.length : Int)) = true) ∧ Aside (withErr l args = 2 ∧ withV l args = [])) ∨ ((decide ((60 : Int) < (args.length : Int)) = false) ∧ Aside (withErr l args = 0 ∧ withV l args = refW l args (idsV l))) := by
  by_cases h60 : 60 < args.length
  · have e : withErr l args = 2 := by rw [withErr, if_neg (by simpa using h), if_pos h60]
    exact .inl ⟨by simp; omega, ⟨e, by rw [withV, e]; rfl⟩⟩
  · have e : withErr l args = 0 := by rw [withErr, if_neg (by simpa using h), if_neg h60]
    exact .inr ⟨by simp; omega, ⟨e, by rw [withV, if_pos e, with_eq h]⟩⟩
set_option maxHeartbeats 8000000 in
set_option maxRecDepth 100000 in
theorem findSays_bad (A : Option Addr) (c : Nat) (l : List Ver) (f : Fld) (Ar : Option Addr) (cr : Nat) (args : List ByteArray) (ok okr : Nat → Prop) (w : World) (hwl : StoWf l) (hfs : f.val.size ≤ 9223372036854775807) (hr : verR.Row w ok A l) (hc : l.length ≤ c) (ha : str.Row w okr Ar args) (h0 : (storeErr l != 0) = true) :
    Calls Tryd.prog 7 #[.slice A l.length c, .agg #[.string f.key, .string f.val], .slice Ar args.length cr] w fun e w' => e = .returned (.bool true) ∧ Below w.heap.size w w' := by
  have hb : Below w.heap.size w (w.alloc (.cells #[.string f.key, .string f.val] 46)) := (Below.refl _ _).alloc (Nat.le_refl _) _
  have HR0 := Aside.mk (hr.below hb)
  have HA0 := Aside.mk (ha.below hb)
  have HQ0 := Aside.mk (Bk.made w [.string f.key, .string f.val] 46)
  have HB0 := Aside.mk hb
  have HWL := Aside.mk hwl
  have HFS := Aside.mk hfs
  have hna := ha.1
  clear hr ha hb hwl hfs
  have hbad : ¬ storeErr l = 0 := by simpa using h0
  have h00 : (storeErr l == 0) = false := by simpa using h0
  have HE1 := Aside.mk (show byErr l f = storeErr l from if_pos hbad)
  have HE2 := Aside.mk (show byV l f = [] by rw [byV, HE1.out, if_neg hbad])
  have HE3 := Aside.mk (show withErr l args = storeErr l from if_pos hbad)
  have HE4 := Aside.mk (show withV l args = [] by rw [withV, HE3.out, if_neg hbad])
  clear hbad
  go_enter Tryd.func7, Tryd.ntmps7
  go_wp2_with fail
  refine (findBy _ c l f _ _ HR0.out hc).mono ?_
  rw [HE1.out, HE2.out]
  rintro e w1 ⟨v1, rfl, s1, hb⟩
  obtain ⟨X1, d1, rfl, _, s1⟩ := s1
  have HR1 := Aside.mk (HR0.out.below hb)
  have HA1 := Aside.mk (HA0.out.below hb)
  have HQ1 := Aside.mk (HQ0.out.below hb)
  have HB1 := Aside.mk (below_step HB0.out hb)
  clear hb HR0 HA0 HQ0 HB0
  have HX1 := Aside.mk s1
  clear s1
  go_wp2_with fail
  refine (findWith _ c l _ _ args _ _ _ HR1.out hc HA1.out).mono ?_
  rw [HE3.out, HE4.out]
  rintro e w2 ⟨v2, rfl, s2, hb⟩
  obtain ⟨X2, d2, rfl, _, s2⟩ := s2
  have HR2 := Aside.mk (HR1.out.below hb)
  have HA2 := Aside.mk (HA1.out.below hb)
  have HQ2 := Aside.mk (HQ1.out.below hb)
  have HB2 := Aside.mk (below_step HB1.out hb)
  have HX2 := Aside.mk (HX1.out.below hb)
  clear hb HR1 HA1 HQ1 HB1 HX1
  have HY2 := Aside.mk s2
  clear s2
  go_wp2_with fail
  refine (findWith (some ⟨w2.heap.size, 0, none⟩) 1 [verB] (some ⟨w2.heap.size + 1, 0, none⟩) 1 [aS] (fun _ => True) (fun _ => True) _ (((row_litB w2).mono fun _ _ _ => trivial).below ((Below.refl _ _).alloc (Nat.le_refl _) _)) (Nat.le_refl _) ((own_lit2 9 w2 (.cells #[.string ⟨#[97]⟩, .int .i64 0, .slice none 0 0, .slice none 0 0, .bool false] 62) 0 (fun _ => True) (Nat.zero_le _) aS).row.2.2.mono fun _ _ _ => trivial)).mono ?_
  rw [with_b.1, with_b.2]
  rintro e w3 ⟨v3, rfl, s3, hb⟩
  obtain ⟨X3, d3, rfl, _, s3⟩ := s3
  replace hb := below_step (w := w2) (((Below.refl _ _).alloc (Nat.le_refl _) _ : Below w2.heap.size w2 (w2.alloc (.cells #[.string ⟨#[97]⟩, .int .i64 0, .slice none 0 0, .slice none 0 0, .bool false] 62))).alloc (by simp) (.cells #[.string aS] 9)) hb
  have HR3 := Aside.mk (HR2.out.below hb)
  have HA3 := Aside.mk (HA2.out.below hb)
  have HQ3 := Aside.mk (HQ2.out.below hb)
  have HB3 := Aside.mk (below_step HB2.out hb)
  have HX3 := Aside.mk (HX2.out.below hb)
  have HY3 := Aside.mk (HY2.out.below hb)
  clear hb HR2 HA2 HQ2 HB2 HX2 HY2
  have HZ3 := Aside.mk s3
  clear s3
  go_wp2_with fail
  refine (equalSt X3 (some ⟨w3.heap.size, 0, none⟩) d3 1 [aS] [aS] _ (fun _ => True) _ (HZ3.out.below ((Below.refl _ _).alloc (Nat.le_refl _) _)) ((own_lit1 9 w3 0 (fun _ => True) (Nat.zero_le _) aS).row.2.2.mono fun _ _ _ => trivial)).mono ?_
  rw [decide_eq_true rfl]
  rintro e w4 ⟨rfl, hd⟩
  have hb := below_step (w := w3) ((Below.refl _ _).alloc (Nat.le_refl _) _) hd.below
  clear hd
  have HR4 := Aside.mk (HR3.out.below hb)
  have HA4 := Aside.mk (HA3.out.below hb)
  have HQ4 := Aside.mk (HQ3.out.below hb)
  have HB4 := Aside.mk (below_step HB3.out hb)
  have HX4 := Aside.mk (HX3.out.below hb)
  have HY4 := Aside.mk (HY3.out.below hb)
  have HZ4 := Aside.mk (HZ3.out.below hb)
  clear hb HR3 HA3 HQ3 HB3 HX3 HY3 HZ3
  clear HZ4
  go_wp2_with fail
  refine (refStore _ c l _ HWL.out _ HR4.out hc).mono ?_
  skip
  rintro e w5 ⟨rfl, hb⟩
  have HR5 := Aside.mk (HR4.out.below hb)
  have HA5 := Aside.mk (HA4.out.below hb)
  have HQ5 := Aside.mk (HQ4.out.below hb)
  have HB5 := Aside.mk (below_step HB4.out hb)
  have HX5 := Aside.mk (HX4.out.below hb)
  have HY5 := Aside.mk (HY4.out.below hb)
  clear hb HR4 HA4 HQ4 HB4 HX4 HY4
  go_wp2_with fail
  go_ret
  exact ⟨rfl, HB5.out⟩
set_option maxHeartbeats 8000000 in
set_option maxRecDepth 100000 in
theorem findSays_11 (A : Option Addr) (c : Nat) (l : List Ver) (f : Fld) (Ar : Option Addr) (cr : Nat) (args : List ByteArray) (ok okr : Nat → Prop) (w : World) (hwl : StoWf l) (hfs : f.val.size ≤ 9223372036854775807) (hr : verR.Row w ok A l) (hc : l.length ≤ c) (ha : str.Row w okr Ar args) (h0 : storeErr l = 0) (a1 : idOk f.key = false) (g60 : decide ((60 : Int) < (args.length : Int)) = true) :
    Calls Tryd.prog 7 #[.slice A l.length c, .agg #[.string f.key, .string f.val], .slice Ar args.length cr] w fun e w' => e = .returned (.bool true) ∧ Below w.heap.size w w' := by
  have hb : Below w.heap.size w (w.alloc (.cells #[.string f.key, .string f.val] 46)) := (Below.refl _ _).alloc (Nat.le_refl _) _
  have HR0 := Aside.mk (hr.below hb)
  have HA0 := Aside.mk (ha.below hb)
  have HQ0 := Aside.mk (Bk.made w [.string f.key, .string f.val] 46)
  have HB0 := Aside.mk hb
  have HWL := Aside.mk hwl
  have HFS := Aside.mk hfs
  have hna := ha.1
  clear hr ha hb hwl hfs
  have H1 := Aside.mk h0
  have HBY := Aside.mk (show byErr l f = 3 ∧ byV l f = [] by rcases by_ways l f h0 with ⟨b, h⟩ | ⟨b, h⟩ | ⟨b, h⟩ <;> first | exact h.out | (simp_all; done))
  have HWI := Aside.mk (show withErr l args = 2 ∧ withV l args = [] by rcases with_ways l args h0 with ⟨b, h⟩ | ⟨b, h⟩ <;> first | exact h.out | (rw [b] at g60; cases g60))
  clear h0
  go_enter Tryd.func7, Tryd.ntmps7
  go_wp2_with fail
  refine (findBy _ c l f _ _ HR0.out hc).mono ?_
  rw [HBY.out.1, HBY.out.2]
  rintro e w1 ⟨v1, rfl, s1, hb⟩
  obtain ⟨X1, d1, rfl, _, s1⟩ := s1
  have HR1 := Aside.mk (HR0.out.below hb)
  have HA1 := Aside.mk (HA0.out.below hb)
  have HQ1 := Aside.mk (HQ0.out.below hb)
  have HB1 := Aside.mk (below_step HB0.out hb)
  clear hb HR0 HA0 HQ0 HB0
  have HX1 := Aside.mk s1
  clear s1
  go_wp2_with fail
  refine (findWith _ c l _ _ args _ _ _ HR1.out hc HA1.out).mono ?_
  rw [HWI.out.1, HWI.out.2]
  rintro e w2 ⟨v2, rfl, s2, hb⟩
  obtain ⟨X2, d2, rfl, _, s2⟩ := s2
  have HR2 := Aside.mk (HR1.out.below hb)
  have HA2 := Aside.mk (HA1.out.below hb)
  have HQ2 := Aside.mk (HQ1.out.below hb)
  have HB2 := Aside.mk (below_step HB1.out hb)
  have HX2 := Aside.mk (HX1.out.below hb)
  clear hb HR1 HA1 HQ1 HB1 HX1
  have HY2 := Aside.mk s2
  clear s2
  go_wp2_with fail
  refine (findWith (some ⟨w2.heap.size, 0, none⟩) 1 [verB] (some ⟨w2.heap.size + 1, 0, none⟩) 1 [aS] (fun _ => True) (fun _ => True) _ (((row_litB w2).mono fun _ _ _ => trivial).below ((Below.refl _ _).alloc (Nat.le_refl _) _)) (Nat.le_refl _) ((own_lit2 9 w2 (.cells #[.string ⟨#[97]⟩, .int .i64 0, .slice none 0 0, .slice none 0 0, .bool false] 62) 0 (fun _ => True) (Nat.zero_le _) aS).row.2.2.mono fun _ _ _ => trivial)).mono ?_
  rw [with_b.1, with_b.2]
  rintro e w3 ⟨v3, rfl, s3, hb⟩
  obtain ⟨X3, d3, rfl, _, s3⟩ := s3
  replace hb := below_step (w := w2) (((Below.refl _ _).alloc (Nat.le_refl _) _ : Below w2.heap.size w2 (w2.alloc (.cells #[.string ⟨#[97]⟩, .int .i64 0, .slice none 0 0, .slice none 0 0, .bool false] 62))).alloc (by simp) (.cells #[.string aS] 9)) hb
  have HR3 := Aside.mk (HR2.out.below hb)
  have HA3 := Aside.mk (HA2.out.below hb)
  have HQ3 := Aside.mk (HQ2.out.below hb)
  have HB3 := Aside.mk (below_step HB2.out hb)
  have HX3 := Aside.mk (HX2.out.below hb)
  have HY3 := Aside.mk (HY2.out.below hb)
  clear hb HR2 HA2 HQ2 HB2 HX2 HY2
  have HZ3 := Aside.mk s3
  clear s3
  go_wp2_with fail
  refine (equalSt X3 (some ⟨w3.heap.size, 0, none⟩) d3 1 [aS] [aS] _ (fun _ => True) _ (HZ3.out.below ((Below.refl _ _).alloc (Nat.le_refl _) _)) ((own_lit1 9 w3 0 (fun _ => True) (Nat.zero_le _) aS).row.2.2.mono fun _ _ _ => trivial)).mono ?_
  rw [decide_eq_true rfl]
  rintro e w4 ⟨rfl, hd⟩
  have hb := below_step (w := w3) ((Below.refl _ _).alloc (Nat.le_refl _) _) hd.below
  clear hd
  have HR4 := Aside.mk (HR3.out.below hb)
  have HA4 := Aside.mk (HA3.out.below hb)
  have HQ4 := Aside.mk (HQ3.out.below hb)
  have HB4 := Aside.mk (below_step HB3.out hb)
  have HX4 := Aside.mk (HX3.out.below hb)
  have HY4 := Aside.mk (HY3.out.below hb)
  have HZ4 := Aside.mk (HZ3.out.below hb)
  clear hb HR3 HA3 HQ3 HB3 HX3 HY3 HZ3
  clear HZ4
  go_wp2_with fail
  refine (refStore _ c l _ HWL.out _ HR4.out hc).mono ?_
  rw [H1.out]
  rintro e w5 ⟨rfl, hb⟩
  have HR5 := Aside.mk (HR4.out.below hb)
  have HA5 := Aside.mk (HA4.out.below hb)
  have HQ5 := Aside.mk (HQ4.out.below hb)
  have HB5 := Aside.mk (below_step HB4.out hb)
  have HX5 := Aside.mk (HX4.out.below hb)
  have HY5 := Aside.mk (HY4.out.below hb)
  clear hb HR4 HA4 HQ4 HB4 HX4 HY4
  have q5 := HQ5.out.two
  go_wp2_with fail
  refine (refId _ _).mono ?_
  rw [a1]
  rintro e w6 ⟨rfl, hb⟩
  clear q5
  have HR6 := Aside.mk (HR5.out.below hb)
  have HA6 := Aside.mk (HA5.out.below hb)
  have HQ6 := Aside.mk (HQ5.out.below hb)
  have HB6 := Aside.mk (below_step HB5.out hb)
  have HX6 := Aside.mk (HX5.out.below hb)
  have HY6 := Aside.mk (HY5.out.below hb)
  clear hb HR5 HA5 HQ5 HB5 HX5 HY5
  have q6 := HQ6.out.two
  go_wp2_with fail
  go_ret
  exact ⟨rfl, HB6.out⟩
set_option maxHeartbeats 8000000 in
set_option maxRecDepth 100000 in
theorem findSays_10 (A : Option Addr) (c : Nat) (l : List Ver) (f : Fld) (Ar : Option Addr) (cr : Nat) (args : List ByteArray) (ok okr : Nat → Prop) (w : World) (hwl : StoWf l) (hfs : f.val.size ≤ 9223372036854775807) (hr : verR.Row w ok A l) (hc : l.length ≤ c) (ha : str.Row w okr Ar args) (h0 : storeErr l = 0) (a1 : idOk f.key = false) (g60 : decide ((60 : Int) < (args.length : Int)) = false) :
    Calls Tryd.prog 7 #[.slice A l.length c, .agg #[.string f.key, .string f.val], .slice Ar args.length cr] w fun e w' => e = .returned (.bool true) ∧ Below w.heap.size w w' := by
  have hb : Below w.heap.size w (w.alloc (.cells #[.string f.key, .string f.val] 46)) := (Below.refl _ _).alloc (Nat.le_refl _) _
  have HR0 := Aside.mk (hr.below hb)
  have HA0 := Aside.mk (ha.below hb)
  have HQ0 := Aside.mk (Bk.made w [.string f.key, .string f.val] 46)
  have HB0 := Aside.mk hb
  have HWL := Aside.mk hwl
  have HFS := Aside.mk hfs
  have hna := ha.1
  clear hr ha hb hwl hfs
  have H1 := Aside.mk h0
  have HBY := Aside.mk (show byErr l f = 3 ∧ byV l f = [] by rcases by_ways l f h0 with ⟨b, h⟩ | ⟨b, h⟩ | ⟨b, h⟩ <;> first | exact h.out | (simp_all; done))
  have HWI := Aside.mk (show withErr l args = 0 ∧ withV l args = refW l args (idsV l) by rcases with_ways l args h0 with ⟨b, h⟩ | ⟨b, h⟩ <;> first | exact h.out | (rw [b] at g60; cases g60))
  clear h0
  go_enter Tryd.func7, Tryd.ntmps7
  go_wp2_with fail
  refine (findBy _ c l f _ _ HR0.out hc).mono ?_
  rw [HBY.out.1, HBY.out.2]
  rintro e w1 ⟨v1, rfl, s1, hb⟩
  obtain ⟨X1, d1, rfl, _, s1⟩ := s1
  have HR1 := Aside.mk (HR0.out.below hb)
  have HA1 := Aside.mk (HA0.out.below hb)
  have HQ1 := Aside.mk (HQ0.out.below hb)
  have HB1 := Aside.mk (below_step HB0.out hb)
  clear hb HR0 HA0 HQ0 HB0
  have HX1 := Aside.mk s1
  clear s1
  go_wp2_with fail
  refine (findWith _ c l _ _ args _ _ _ HR1.out hc HA1.out).mono ?_
  rw [HWI.out.1, HWI.out.2]
  rintro e w2 ⟨v2, rfl, s2, hb⟩
  obtain ⟨X2, d2, rfl, _, s2⟩ := s2
  have HR2 := Aside.mk (HR1.out.below hb)
  have HA2 := Aside.mk (HA1.out.below hb)
  have HQ2 := Aside.mk (HQ1.out.below hb)
  have HB2 := Aside.mk (below_step HB1.out hb)
  have HX2 := Aside.mk (HX1.out.below hb)
  clear hb HR1 HA1 HQ1 HB1 HX1
  have HY2 := Aside.mk s2
  clear s2
  go_wp2_with fail
  refine (findWith (some ⟨w2.heap.size, 0, none⟩) 1 [verB] (some ⟨w2.heap.size + 1, 0, none⟩) 1 [aS] (fun _ => True) (fun _ => True) _ (((row_litB w2).mono fun _ _ _ => trivial).below ((Below.refl _ _).alloc (Nat.le_refl _) _)) (Nat.le_refl _) ((own_lit2 9 w2 (.cells #[.string ⟨#[97]⟩, .int .i64 0, .slice none 0 0, .slice none 0 0, .bool false] 62) 0 (fun _ => True) (Nat.zero_le _) aS).row.2.2.mono fun _ _ _ => trivial)).mono ?_
  rw [with_b.1, with_b.2]
  rintro e w3 ⟨v3, rfl, s3, hb⟩
  obtain ⟨X3, d3, rfl, _, s3⟩ := s3
  replace hb := below_step (w := w2) (((Below.refl _ _).alloc (Nat.le_refl _) _ : Below w2.heap.size w2 (w2.alloc (.cells #[.string ⟨#[97]⟩, .int .i64 0, .slice none 0 0, .slice none 0 0, .bool false] 62))).alloc (by simp) (.cells #[.string aS] 9)) hb
  have HR3 := Aside.mk (HR2.out.below hb)
  have HA3 := Aside.mk (HA2.out.below hb)
  have HQ3 := Aside.mk (HQ2.out.below hb)
  have HB3 := Aside.mk (below_step HB2.out hb)
  have HX3 := Aside.mk (HX2.out.below hb)
  have HY3 := Aside.mk (HY2.out.below hb)
  clear hb HR2 HA2 HQ2 HB2 HX2 HY2
  have HZ3 := Aside.mk s3
  clear s3
  go_wp2_with fail
  refine (equalSt X3 (some ⟨w3.heap.size, 0, none⟩) d3 1 [aS] [aS] _ (fun _ => True) _ (HZ3.out.below ((Below.refl _ _).alloc (Nat.le_refl _) _)) ((own_lit1 9 w3 0 (fun _ => True) (Nat.zero_le _) aS).row.2.2.mono fun _ _ _ => trivial)).mono ?_
  rw [decide_eq_true rfl]
  rintro e w4 ⟨rfl, hd⟩
  have hb := below_step (w := w3) ((Below.refl _ _).alloc (Nat.le_refl _) _) hd.below
  clear hd
  have HR4 := Aside.mk (HR3.out.below hb)
  have HA4 := Aside.mk (HA3.out.below hb)
  have HQ4 := Aside.mk (HQ3.out.below hb)
  have HB4 := Aside.mk (below_step HB3.out hb)
  have HX4 := Aside.mk (HX3.out.below hb)
  have HY4 := Aside.mk (HY3.out.below hb)
  have HZ4 := Aside.mk (HZ3.out.below hb)
  clear hb HR3 HA3 HQ3 HB3 HX3 HY3 HZ3
  clear HZ4
  go_wp2_with fail
  refine (refStore _ c l _ HWL.out _ HR4.out hc).mono ?_
  rw [H1.out]
  rintro e w5 ⟨rfl, hb⟩
  have HR5 := Aside.mk (HR4.out.below hb)
  have HA5 := Aside.mk (HA4.out.below hb)
  have HQ5 := Aside.mk (HQ4.out.below hb)
  have HB5 := Aside.mk (below_step HB4.out hb)
  have HX5 := Aside.mk (HX4.out.below hb)
  have HY5 := Aside.mk (HY4.out.below hb)
  clear hb HR4 HA4 HQ4 HB4 HX4 HY4
  have q5 := HQ5.out.two
  go_wp2_with fail
  refine (refId _ _).mono ?_
  rw [a1]
  rintro e w6 ⟨rfl, hb⟩
  clear q5
  have HR6 := Aside.mk (HR5.out.below hb)
  have HA6 := Aside.mk (HA5.out.below hb)
  have HQ6 := Aside.mk (HQ5.out.below hb)
  have HB6 := Aside.mk (below_step HB5.out hb)
  have HX6 := Aside.mk (HX5.out.below hb)
  have HY6 := Aside.mk (HY5.out.below hb)
  clear hb HR5 HA5 HQ5 HB5 HX5 HY5
  have q6 := HQ6.out.two
  go_wp2_with fail
  refine (refWith _ c l _ _ args _ _ _ HR6.out HA6.out H1.out).mono ?_
  rintro e w10 ⟨v10, rfl, s10, hb⟩
  obtain ⟨X10, d10, rfl, _, s10⟩ := s10
  clear q6
  have HR10 := Aside.mk (HR6.out.below hb)
  have HA10 := Aside.mk (HA6.out.below hb)
  have HQ10 := Aside.mk (HQ6.out.below hb)
  have HB10 := Aside.mk (below_step HB6.out hb)
  have HX10 := Aside.mk (HX6.out.below hb)
  have HY10 := Aside.mk (HY6.out.below hb)
  clear hb HR6 HA6 HQ6 HB6 HX6 HY6
  have HV10 := Aside.mk s10
  clear s10
  go_wp2_with fail
  refine (equalSt _ _ _ _ (refW l args (idsV l)) (refW l args (idsV l)) _ _ _ HY10.out HV10.out).mono ?_
  rw [decide_eq_true rfl]
  rintro e w11 ⟨rfl, hd⟩
  have HB11 := Aside.mk (below_step HB10.out hd.below)
  clear hd
  go_wp2_with fail
  go_ret
  exact ⟨rfl, HB11.out⟩
set_option maxHeartbeats 8000000 in
set_option maxRecDepth 100000 in
theorem findSays_21 (A : Option Addr) (c : Nat) (l : List Ver) (f : Fld) (Ar : Option Addr) (cr : Nat) (args : List ByteArray) (ok okr : Nat → Prop) (w : World) (hwl : StoWf l) (hfs : f.val.size ≤ 9223372036854775807) (hr : verR.Row w ok A l) (hc : l.length ≤ c) (ha : str.Row w okr Ar args) (h0 : storeErr l = 0) (a1 : idOk f.key = true) (a2 : valOk f.val = false) (g60 : decide ((60 : Int) < (args.length : Int)) = true) :
    Calls Tryd.prog 7 #[.slice A l.length c, .agg #[.string f.key, .string f.val], .slice Ar args.length cr] w fun e w' => e = .returned (.bool true) ∧ Below w.heap.size w w' := by
  have hb : Below w.heap.size w (w.alloc (.cells #[.string f.key, .string f.val] 46)) := (Below.refl _ _).alloc (Nat.le_refl _) _
  have HR0 := Aside.mk (hr.below hb)
  have HA0 := Aside.mk (ha.below hb)
  have HQ0 := Aside.mk (Bk.made w [.string f.key, .string f.val] 46)
  have HB0 := Aside.mk hb
  have HWL := Aside.mk hwl
  have HFS := Aside.mk hfs
  have hna := ha.1
  clear hr ha hb hwl hfs
  have H1 := Aside.mk h0
  have HBY := Aside.mk (show byErr l f = 3 ∧ byV l f = [] by rcases by_ways l f h0 with ⟨b, h⟩ | ⟨b, h⟩ | ⟨b, h⟩ <;> first | exact h.out | (simp_all; done))
  have HWI := Aside.mk (show withErr l args = 2 ∧ withV l args = [] by rcases with_ways l args h0 with ⟨b, h⟩ | ⟨b, h⟩ <;> first | exact h.out | (rw [b] at g60; cases g60))
  clear h0
  go_enter Tryd.func7, Tryd.ntmps7
  go_wp2_with fail
  refine (findBy _ c l f _ _ HR0.out hc).mono ?_
  rw [HBY.out.1, HBY.out.2]
  rintro e w1 ⟨v1, rfl, s1, hb⟩
  obtain ⟨X1, d1, rfl, _, s1⟩ := s1
  have HR1 := Aside.mk (HR0.out.below hb)
  have HA1 := Aside.mk (HA0.out.below hb)
  have HQ1 := Aside.mk (HQ0.out.below hb)
  have HB1 := Aside.mk (below_step HB0.out hb)
  clear hb HR0 HA0 HQ0 HB0
  have HX1 := Aside.mk s1
  clear s1
  go_wp2_with fail
  refine (findWith _ c l _ _ args _ _ _ HR1.out hc HA1.out).mono ?_
  rw [HWI.out.1, HWI.out.2]
  rintro e w2 ⟨v2, rfl, s2, hb⟩
  obtain ⟨X2, d2, rfl, _, s2⟩ := s2
  have HR2 := Aside.mk (HR1.out.below hb)
  have HA2 := Aside.mk (HA1.out.below hb)
  have HQ2 := Aside.mk (HQ1.out.below hb)
  have HB2 := Aside.mk (below_step HB1.out hb)
  have HX2 := Aside.mk (HX1.out.below hb)
  clear hb HR1 HA1 HQ1 HB1 HX1
  have HY2 := Aside.mk s2
  clear s2
  go_wp2_with fail
  refine (findWith (some ⟨w2.heap.size, 0, none⟩) 1 [verB] (some ⟨w2.heap.size + 1, 0, none⟩) 1 [aS] (fun _ => True) (fun _ => True) _ (((row_litB w2).mono fun _ _ _ => trivial).below ((Below.refl _ _).alloc (Nat.le_refl _) _)) (Nat.le_refl _) ((own_lit2 9 w2 (.cells #[.string ⟨#[97]⟩, .int .i64 0, .slice none 0 0, .slice none 0 0, .bool false] 62) 0 (fun _ => True) (Nat.zero_le _) aS).row.2.2.mono fun _ _ _ => trivial)).mono ?_
  rw [with_b.1, with_b.2]
  rintro e w3 ⟨v3, rfl, s3, hb⟩
  obtain ⟨X3, d3, rfl, _, s3⟩ := s3
  replace hb := below_step (w := w2) (((Below.refl _ _).alloc (Nat.le_refl _) _ : Below w2.heap.size w2 (w2.alloc (.cells #[.string ⟨#[97]⟩, .int .i64 0, .slice none 0 0, .slice none 0 0, .bool false] 62))).alloc (by simp) (.cells #[.string aS] 9)) hb
  have HR3 := Aside.mk (HR2.out.below hb)
  have HA3 := Aside.mk (HA2.out.below hb)
  have HQ3 := Aside.mk (HQ2.out.below hb)
  have HB3 := Aside.mk (below_step HB2.out hb)
  have HX3 := Aside.mk (HX2.out.below hb)
  have HY3 := Aside.mk (HY2.out.below hb)
  clear hb HR2 HA2 HQ2 HB2 HX2 HY2
  have HZ3 := Aside.mk s3
  clear s3
  go_wp2_with fail
  refine (equalSt X3 (some ⟨w3.heap.size, 0, none⟩) d3 1 [aS] [aS] _ (fun _ => True) _ (HZ3.out.below ((Below.refl _ _).alloc (Nat.le_refl _) _)) ((own_lit1 9 w3 0 (fun _ => True) (Nat.zero_le _) aS).row.2.2.mono fun _ _ _ => trivial)).mono ?_
  rw [decide_eq_true rfl]
  rintro e w4 ⟨rfl, hd⟩
  have hb := below_step (w := w3) ((Below.refl _ _).alloc (Nat.le_refl _) _) hd.below
  clear hd
  have HR4 := Aside.mk (HR3.out.below hb)
  have HA4 := Aside.mk (HA3.out.below hb)
  have HQ4 := Aside.mk (HQ3.out.below hb)
  have HB4 := Aside.mk (below_step HB3.out hb)
  have HX4 := Aside.mk (HX3.out.below hb)
  have HY4 := Aside.mk (HY3.out.below hb)
  have HZ4 := Aside.mk (HZ3.out.below hb)
  clear hb HR3 HA3 HQ3 HB3 HX3 HY3 HZ3
  clear HZ4
  go_wp2_with fail
  refine (refStore _ c l _ HWL.out _ HR4.out hc).mono ?_
  rw [H1.out]
  rintro e w5 ⟨rfl, hb⟩
  have HR5 := Aside.mk (HR4.out.below hb)
  have HA5 := Aside.mk (HA4.out.below hb)
  have HQ5 := Aside.mk (HQ4.out.below hb)
  have HB5 := Aside.mk (below_step HB4.out hb)
  have HX5 := Aside.mk (HX4.out.below hb)
  have HY5 := Aside.mk (HY4.out.below hb)
  clear hb HR4 HA4 HQ4 HB4 HX4 HY4
  have q5 := HQ5.out.two
  go_wp2_with fail
  refine (refId _ _).mono ?_
  rw [a1]
  rintro e w6 ⟨rfl, hb⟩
  clear q5
  have HR6 := Aside.mk (HR5.out.below hb)
  have HA6 := Aside.mk (HA5.out.below hb)
  have HQ6 := Aside.mk (HQ5.out.below hb)
  have HB6 := Aside.mk (below_step HB5.out hb)
  have HX6 := Aside.mk (HX5.out.below hb)
  have HY6 := Aside.mk (HY5.out.below hb)
  clear hb HR5 HA5 HQ5 HB5 HX5 HY5
  have q6 := HQ6.out.two
  go_wp2_with fail
  refine (refValue _ HFS.out _).mono ?_
  rw [a2]
  rintro e w7 ⟨rfl, hb⟩
  clear q6
  have HR7 := Aside.mk (HR6.out.below hb)
  have HA7 := Aside.mk (HA6.out.below hb)
  have HQ7 := Aside.mk (HQ6.out.below hb)
  have HB7 := Aside.mk (below_step HB6.out hb)
  have HX7 := Aside.mk (HX6.out.below hb)
  have HY7 := Aside.mk (HY6.out.below hb)
  clear hb HR6 HA6 HQ6 HB6 HX6 HY6
  go_wp2_with fail
  go_ret
  exact ⟨rfl, HB7.out⟩
set_option maxHeartbeats 8000000 in
set_option maxRecDepth 100000 in
theorem findSays_20 (A : Option Addr) (c : Nat) (l : List Ver) (f : Fld) (Ar : Option Addr) (cr : Nat) (args : List ByteArray) (ok okr : Nat → Prop) (w : World) (hwl : StoWf l) (hfs : f.val.size ≤ 9223372036854775807) (hr : verR.Row w ok A l) (hc : l.length ≤ c) (ha : str.Row w okr Ar args) (h0 : storeErr l = 0) (a1 : idOk f.key = true) (a2 : valOk f.val = false) (g60 : decide ((60 : Int) < (args.length : Int)) = false) :
    Calls Tryd.prog 7 #[.slice A l.length c, .agg #[.string f.key, .string f.val], .slice Ar args.length cr] w fun e w' => e = .returned (.bool true) ∧ Below w.heap.size w w' := by
  have hb : Below w.heap.size w (w.alloc (.cells #[.string f.key, .string f.val] 46)) := (Below.refl _ _).alloc (Nat.le_refl _) _
  have HR0 := Aside.mk (hr.below hb)
  have HA0 := Aside.mk (ha.below hb)
  have HQ0 := Aside.mk (Bk.made w [.string f.key, .string f.val] 46)
  have HB0 := Aside.mk hb
  have HWL := Aside.mk hwl
  have HFS := Aside.mk hfs
  have hna := ha.1
  clear hr ha hb hwl hfs
  have H1 := Aside.mk h0
  have HBY := Aside.mk (show byErr l f = 3 ∧ byV l f = [] by rcases by_ways l f h0 with ⟨b, h⟩ | ⟨b, h⟩ | ⟨b, h⟩ <;> first | exact h.out | (simp_all; done))
  have HWI := Aside.mk (show withErr l args = 0 ∧ withV l args = refW l args (idsV l) by rcases with_ways l args h0 with ⟨b, h⟩ | ⟨b, h⟩ <;> first | exact h.out | (rw [b] at g60; cases g60))
  clear h0
  go_enter Tryd.func7, Tryd.ntmps7
  go_wp2_with fail
  refine (findBy _ c l f _ _ HR0.out hc).mono ?_
  rw [HBY.out.1, HBY.out.2]
  rintro e w1 ⟨v1, rfl, s1, hb⟩
  obtain ⟨X1, d1, rfl, _, s1⟩ := s1
  have HR1 := Aside.mk (HR0.out.below hb)
  have HA1 := Aside.mk (HA0.out.below hb)
  have HQ1 := Aside.mk (HQ0.out.below hb)
  have HB1 := Aside.mk (below_step HB0.out hb)
  clear hb HR0 HA0 HQ0 HB0
  have HX1 := Aside.mk s1
  clear s1
  go_wp2_with fail
  refine (findWith _ c l _ _ args _ _ _ HR1.out hc HA1.out).mono ?_
  rw [HWI.out.1, HWI.out.2]
  rintro e w2 ⟨v2, rfl, s2, hb⟩
  obtain ⟨X2, d2, rfl, _, s2⟩ := s2
  have HR2 := Aside.mk (HR1.out.below hb)
  have HA2 := Aside.mk (HA1.out.below hb)
  have HQ2 := Aside.mk (HQ1.out.below hb)
  have HB2 := Aside.mk (below_step HB1.out hb)
  have HX2 := Aside.mk (HX1.out.below hb)
  clear hb HR1 HA1 HQ1 HB1 HX1
  have HY2 := Aside.mk s2
  clear s2
  go_wp2_with fail
  refine (findWith (some ⟨w2.heap.size, 0, none⟩) 1 [verB] (some ⟨w2.heap.size + 1, 0, none⟩) 1 [aS] (fun _ => True) (fun _ => True) _ (((row_litB w2).mono fun _ _ _ => trivial).below ((Below.refl _ _).alloc (Nat.le_refl _) _)) (Nat.le_refl _) ((own_lit2 9 w2 (.cells #[.string ⟨#[97]⟩, .int .i64 0, .slice none 0 0, .slice none 0 0, .bool false] 62) 0 (fun _ => True) (Nat.zero_le _) aS).row.2.2.mono fun _ _ _ => trivial)).mono ?_
  rw [with_b.1, with_b.2]
  rintro e w3 ⟨v3, rfl, s3, hb⟩
  obtain ⟨X3, d3, rfl, _, s3⟩ := s3
  replace hb := below_step (w := w2) (((Below.refl _ _).alloc (Nat.le_refl _) _ : Below w2.heap.size w2 (w2.alloc (.cells #[.string ⟨#[97]⟩, .int .i64 0, .slice none 0 0, .slice none 0 0, .bool false] 62))).alloc (by simp) (.cells #[.string aS] 9)) hb
  have HR3 := Aside.mk (HR2.out.below hb)
  have HA3 := Aside.mk (HA2.out.below hb)
  have HQ3 := Aside.mk (HQ2.out.below hb)
  have HB3 := Aside.mk (below_step HB2.out hb)
  have HX3 := Aside.mk (HX2.out.below hb)
  have HY3 := Aside.mk (HY2.out.below hb)
  clear hb HR2 HA2 HQ2 HB2 HX2 HY2
  have HZ3 := Aside.mk s3
  clear s3
  go_wp2_with fail
  refine (equalSt X3 (some ⟨w3.heap.size, 0, none⟩) d3 1 [aS] [aS] _ (fun _ => True) _ (HZ3.out.below ((Below.refl _ _).alloc (Nat.le_refl _) _)) ((own_lit1 9 w3 0 (fun _ => True) (Nat.zero_le _) aS).row.2.2.mono fun _ _ _ => trivial)).mono ?_
  rw [decide_eq_true rfl]
  rintro e w4 ⟨rfl, hd⟩
  have hb := below_step (w := w3) ((Below.refl _ _).alloc (Nat.le_refl _) _) hd.below
  clear hd
  have HR4 := Aside.mk (HR3.out.below hb)
  have HA4 := Aside.mk (HA3.out.below hb)
  have HQ4 := Aside.mk (HQ3.out.below hb)
  have HB4 := Aside.mk (below_step HB3.out hb)
  have HX4 := Aside.mk (HX3.out.below hb)
  have HY4 := Aside.mk (HY3.out.below hb)
  have HZ4 := Aside.mk (HZ3.out.below hb)
  clear hb HR3 HA3 HQ3 HB3 HX3 HY3 HZ3
  clear HZ4
  go_wp2_with fail
  refine (refStore _ c l _ HWL.out _ HR4.out hc).mono ?_
  rw [H1.out]
  rintro e w5 ⟨rfl, hb⟩
  have HR5 := Aside.mk (HR4.out.below hb)
  have HA5 := Aside.mk (HA4.out.below hb)
  have HQ5 := Aside.mk (HQ4.out.below hb)
  have HB5 := Aside.mk (below_step HB4.out hb)
  have HX5 := Aside.mk (HX4.out.below hb)
  have HY5 := Aside.mk (HY4.out.below hb)
  clear hb HR4 HA4 HQ4 HB4 HX4 HY4
  have q5 := HQ5.out.two
  go_wp2_with fail
  refine (refId _ _).mono ?_
  rw [a1]
  rintro e w6 ⟨rfl, hb⟩
  clear q5
  have HR6 := Aside.mk (HR5.out.below hb)
  have HA6 := Aside.mk (HA5.out.below hb)
  have HQ6 := Aside.mk (HQ5.out.below hb)
  have HB6 := Aside.mk (below_step HB5.out hb)
  have HX6 := Aside.mk (HX5.out.below hb)
  have HY6 := Aside.mk (HY5.out.below hb)
  clear hb HR5 HA5 HQ5 HB5 HX5 HY5
  have q6 := HQ6.out.two
  go_wp2_with fail
  refine (refValue _ HFS.out _).mono ?_
  rw [a2]
  rintro e w7 ⟨rfl, hb⟩
  clear q6
  have HR7 := Aside.mk (HR6.out.below hb)
  have HA7 := Aside.mk (HA6.out.below hb)
  have HQ7 := Aside.mk (HQ6.out.below hb)
  have HB7 := Aside.mk (below_step HB6.out hb)
  have HX7 := Aside.mk (HX6.out.below hb)
  have HY7 := Aside.mk (HY6.out.below hb)
  clear hb HR6 HA6 HQ6 HB6 HX6 HY6
  go_wp2_with fail
  refine (refWith _ c l _ _ args _ _ _ HR7.out HA7.out H1.out).mono ?_
  rintro e w10 ⟨v10, rfl, s10, hb⟩
  obtain ⟨X10, d10, rfl, _, s10⟩ := s10
  have HR10 := Aside.mk (HR7.out.below hb)
  have HA10 := Aside.mk (HA7.out.below hb)
  have HQ10 := Aside.mk (HQ7.out.below hb)
  have HB10 := Aside.mk (below_step HB7.out hb)
  have HX10 := Aside.mk (HX7.out.below hb)
  have HY10 := Aside.mk (HY7.out.below hb)
  clear hb HR7 HA7 HQ7 HB7 HX7 HY7
  have HV10 := Aside.mk s10
  clear s10
  go_wp2_with fail
  refine (equalSt _ _ _ _ (refW l args (idsV l)) (refW l args (idsV l)) _ _ _ HY10.out HV10.out).mono ?_
  rw [decide_eq_true rfl]
  rintro e w11 ⟨rfl, hd⟩
  have HB11 := Aside.mk (below_step HB10.out hd.below)
  clear hd
  go_wp2_with fail
  go_ret
  exact ⟨rfl, HB11.out⟩
set_option maxHeartbeats 8000000 in
set_option maxRecDepth 100000 in
theorem findSays_31 (A : Option Addr) (c : Nat) (l : List Ver) (f : Fld) (Ar : Option Addr) (cr : Nat) (args : List ByteArray) (ok okr : Nat → Prop) (w : World) (hwl : StoWf l) (hfs : f.val.size ≤ 9223372036854775807) (hr : verR.Row w ok A l) (hc : l.length ≤ c) (ha : str.Row w okr Ar args) (h0 : storeErr l = 0) (a1 : idOk f.key = true) (a2 : valOk f.val = true) (g60 : decide ((60 : Int) < (args.length : Int)) = true) :
    Calls Tryd.prog 7 #[.slice A l.length c, .agg #[.string f.key, .string f.val], .slice Ar args.length cr] w fun e w' => e = .returned (.bool true) ∧ Below w.heap.size w w' := by
  have hb : Below w.heap.size w (w.alloc (.cells #[.string f.key, .string f.val] 46)) := (Below.refl _ _).alloc (Nat.le_refl _) _
  have HR0 := Aside.mk (hr.below hb)
  have HA0 := Aside.mk (ha.below hb)
  have HQ0 := Aside.mk (Bk.made w [.string f.key, .string f.val] 46)
  have HB0 := Aside.mk hb
  have HWL := Aside.mk hwl
  have HFS := Aside.mk hfs
  have hna := ha.1
  clear hr ha hb hwl hfs
  have H1 := Aside.mk h0
  have HBY := Aside.mk (show byErr l f = 0 ∧ byV l f = byF l f (idsV l) by rcases by_ways l f h0 with ⟨b, h⟩ | ⟨b, h⟩ | ⟨b, h⟩ <;> first | exact h.out | (simp_all; done))
  have HWI := Aside.mk (show withErr l args = 2 ∧ withV l args = [] by rcases with_ways l args h0 with ⟨b, h⟩ | ⟨b, h⟩ <;> first | exact h.out | (rw [b] at g60; cases g60))
  clear h0
  go_enter Tryd.func7, Tryd.ntmps7
  go_wp2_with fail
  refine (findBy _ c l f _ _ HR0.out hc).mono ?_
  rw [HBY.out.1, HBY.out.2]
  rintro e w1 ⟨v1, rfl, s1, hb⟩
  obtain ⟨X1, d1, rfl, _, s1⟩ := s1
  have HR1 := Aside.mk (HR0.out.below hb)
  have HA1 := Aside.mk (HA0.out.below hb)
  have HQ1 := Aside.mk (HQ0.out.below hb)
  have HB1 := Aside.mk (below_step HB0.out hb)
  clear hb HR0 HA0 HQ0 HB0
  have HX1 := Aside.mk s1
  clear s1
  go_wp2_with fail
  refine (findWith _ c l _ _ args _ _ _ HR1.out hc HA1.out).mono ?_
  rw [HWI.out.1, HWI.out.2]
  rintro e w2 ⟨v2, rfl, s2, hb⟩
  obtain ⟨X2, d2, rfl, _, s2⟩ := s2
  have HR2 := Aside.mk (HR1.out.below hb)
  have HA2 := Aside.mk (HA1.out.below hb)
  have HQ2 := Aside.mk (HQ1.out.below hb)
  have HB2 := Aside.mk (below_step HB1.out hb)
  have HX2 := Aside.mk (HX1.out.below hb)
  clear hb HR1 HA1 HQ1 HB1 HX1
  have HY2 := Aside.mk s2
  clear s2
  go_wp2_with fail
  refine (findWith (some ⟨w2.heap.size, 0, none⟩) 1 [verB] (some ⟨w2.heap.size + 1, 0, none⟩) 1 [aS] (fun _ => True) (fun _ => True) _ (((row_litB w2).mono fun _ _ _ => trivial).below ((Below.refl _ _).alloc (Nat.le_refl _) _)) (Nat.le_refl _) ((own_lit2 9 w2 (.cells #[.string ⟨#[97]⟩, .int .i64 0, .slice none 0 0, .slice none 0 0, .bool false] 62) 0 (fun _ => True) (Nat.zero_le _) aS).row.2.2.mono fun _ _ _ => trivial)).mono ?_
  rw [with_b.1, with_b.2]
  rintro e w3 ⟨v3, rfl, s3, hb⟩
  obtain ⟨X3, d3, rfl, _, s3⟩ := s3
  replace hb := below_step (w := w2) (((Below.refl _ _).alloc (Nat.le_refl _) _ : Below w2.heap.size w2 (w2.alloc (.cells #[.string ⟨#[97]⟩, .int .i64 0, .slice none 0 0, .slice none 0 0, .bool false] 62))).alloc (by simp) (.cells #[.string aS] 9)) hb
  have HR3 := Aside.mk (HR2.out.below hb)
  have HA3 := Aside.mk (HA2.out.below hb)
  have HQ3 := Aside.mk (HQ2.out.below hb)
  have HB3 := Aside.mk (below_step HB2.out hb)
  have HX3 := Aside.mk (HX2.out.below hb)
  have HY3 := Aside.mk (HY2.out.below hb)
  clear hb HR2 HA2 HQ2 HB2 HX2 HY2
  have HZ3 := Aside.mk s3
  clear s3
  go_wp2_with fail
  refine (equalSt X3 (some ⟨w3.heap.size, 0, none⟩) d3 1 [aS] [aS] _ (fun _ => True) _ (HZ3.out.below ((Below.refl _ _).alloc (Nat.le_refl _) _)) ((own_lit1 9 w3 0 (fun _ => True) (Nat.zero_le _) aS).row.2.2.mono fun _ _ _ => trivial)).mono ?_
  rw [decide_eq_true rfl]
  rintro e w4 ⟨rfl, hd⟩
  have hb := below_step (w := w3) ((Below.refl _ _).alloc (Nat.le_refl _) _) hd.below
  clear hd
  have HR4 := Aside.mk (HR3.out.below hb)
  have HA4 := Aside.mk (HA3.out.below hb)
  have HQ4 := Aside.mk (HQ3.out.below hb)
  have HB4 := Aside.mk (below_step HB3.out hb)
  have HX4 := Aside.mk (HX3.out.below hb)
  have HY4 := Aside.mk (HY3.out.below hb)
  have HZ4 := Aside.mk (HZ3.out.below hb)
  clear hb HR3 HA3 HQ3 HB3 HX3 HY3 HZ3
  clear HZ4
  go_wp2_with fail
  refine (refStore _ c l _ HWL.out _ HR4.out hc).mono ?_
  rw [H1.out]
  rintro e w5 ⟨rfl, hb⟩
  have HR5 := Aside.mk (HR4.out.below hb)
  have HA5 := Aside.mk (HA4.out.below hb)
  have HQ5 := Aside.mk (HQ4.out.below hb)
  have HB5 := Aside.mk (below_step HB4.out hb)
  have HX5 := Aside.mk (HX4.out.below hb)
  have HY5 := Aside.mk (HY4.out.below hb)
  clear hb HR4 HA4 HQ4 HB4 HX4 HY4
  have q5 := HQ5.out.two
  go_wp2_with fail
  refine (refId _ _).mono ?_
  rw [a1]
  rintro e w6 ⟨rfl, hb⟩
  clear q5
  have HR6 := Aside.mk (HR5.out.below hb)
  have HA6 := Aside.mk (HA5.out.below hb)
  have HQ6 := Aside.mk (HQ5.out.below hb)
  have HB6 := Aside.mk (below_step HB5.out hb)
  have HX6 := Aside.mk (HX5.out.below hb)
  have HY6 := Aside.mk (HY5.out.below hb)
  clear hb HR5 HA5 HQ5 HB5 HX5 HY5
  have q6 := HQ6.out.two
  go_wp2_with fail
  refine (refValue _ HFS.out _).mono ?_
  rw [a2]
  rintro e w7 ⟨rfl, hb⟩
  clear q6
  have HR7 := Aside.mk (HR6.out.below hb)
  have HA7 := Aside.mk (HA6.out.below hb)
  have HQ7 := Aside.mk (HQ6.out.below hb)
  have HB7 := Aside.mk (below_step HB6.out hb)
  have HX7 := Aside.mk (HX6.out.below hb)
  have HY7 := Aside.mk (HY6.out.below hb)
  clear hb HR6 HA6 HQ6 HB6 HX6 HY6
  have q7 := HQ7.out.two
  go_wp2_with fail
  refine (refBy _ c l f _ _ HR7.out H1.out).mono ?_
  rintro e w8 ⟨v8, rfl, s8, hb⟩
  obtain ⟨X8, d8, rfl, _, s8⟩ := s8
  clear q7
  have HR8 := Aside.mk (HR7.out.below hb)
  have HA8 := Aside.mk (HA7.out.below hb)
  have HQ8 := Aside.mk (HQ7.out.below hb)
  have HB8 := Aside.mk (below_step HB7.out hb)
  have HX8 := Aside.mk (HX7.out.below hb)
  have HY8 := Aside.mk (HY7.out.below hb)
  clear hb HR7 HA7 HQ7 HB7 HX7 HY7
  have HU8 := Aside.mk s8
  clear s8
  go_wp2_with fail
  refine (equalSt _ _ _ _ (byF l f (idsV l)) (byF l f (idsV l)) _ _ _ HX8.out HU8.out).mono ?_
  rw [decide_eq_true rfl]
  rintro e w9 ⟨rfl, hd⟩
  have hb := hd.below
  clear hd
  have HR9 := Aside.mk (HR8.out.below hb)
  have HA9 := Aside.mk (HA8.out.below hb)
  have HQ9 := Aside.mk (HQ8.out.below hb)
  have HB9 := Aside.mk (below_step HB8.out hb)
  have HX9 := Aside.mk (HX8.out.below hb)
  have HY9 := Aside.mk (HY8.out.below hb)
  have HU9 := Aside.mk (HU8.out.below hb)
  clear hb HR8 HA8 HQ8 HB8 HX8 HY8 HU8
  clear HX9 HU9
  go_wp2_with fail
  go_ret
  exact ⟨rfl, HB9.out⟩
set_option maxHeartbeats 8000000 in
set_option maxRecDepth 100000 in
theorem findSays_30 (A : Option Addr) (c : Nat) (l : List Ver) (f : Fld) (Ar : Option Addr) (cr : Nat) (args : List ByteArray) (ok okr : Nat → Prop) (w : World) (hwl : StoWf l) (hfs : f.val.size ≤ 9223372036854775807) (hr : verR.Row w ok A l) (hc : l.length ≤ c) (ha : str.Row w okr Ar args) (h0 : storeErr l = 0) (a1 : idOk f.key = true) (a2 : valOk f.val = true) (g60 : decide ((60 : Int) < (args.length : Int)) = false) :
    Calls Tryd.prog 7 #[.slice A l.length c, .agg #[.string f.key, .string f.val], .slice Ar args.length cr] w fun e w' => e = .returned (.bool true) ∧ Below w.heap.size w w' := by
  have hb : Below w.heap.size w (w.alloc (.cells #[.string f.key, .string f.val] 46)) := (Below.refl _ _).alloc (Nat.le_refl _) _
  have HR0 := Aside.mk (hr.below hb)
  have HA0 := Aside.mk (ha.below hb)
  have HQ0 := Aside.mk (Bk.made w [.string f.key, .string f.val] 46)
  have HB0 := Aside.mk hb
  have HWL := Aside.mk hwl
  have HFS := Aside.mk hfs
  have hna := ha.1
  clear hr ha hb hwl hfs
  have H1 := Aside.mk h0
  have HBY := Aside.mk (show byErr l f = 0 ∧ byV l f = byF l f (idsV l) by rcases by_ways l f h0 with ⟨b, h⟩ | ⟨b, h⟩ | ⟨b, h⟩ <;> first | exact h.out | (simp_all; done))
  have HWI := Aside.mk (show withErr l args = 0 ∧ withV l args = refW l args (idsV l) by rcases with_ways l args h0 with ⟨b, h⟩ | ⟨b, h⟩ <;> first | exact h.out | (rw [b] at g60; cases g60))
  clear h0
  go_enter Tryd.func7, Tryd.ntmps7
  go_wp2_with fail
  refine (findBy _ c l f _ _ HR0.out hc).mono ?_
  rw [HBY.out.1, HBY.out.2]
  rintro e w1 ⟨v1, rfl, s1, hb⟩
  obtain ⟨X1, d1, rfl, _, s1⟩ := s1
  have HR1 := Aside.mk (HR0.out.below hb)
  have HA1 := Aside.mk (HA0.out.below hb)
  have HQ1 := Aside.mk (HQ0.out.below hb)
  have HB1 := Aside.mk (below_step HB0.out hb)
  clear hb HR0 HA0 HQ0 HB0
  have HX1 := Aside.mk s1
  clear s1
  go_wp2_with fail
  refine (findWith _ c l _ _ args _ _ _ HR1.out hc HA1.out).mono ?_
  rw [HWI.out.1, HWI.out.2]
  rintro e w2 ⟨v2, rfl, s2, hb⟩
  obtain ⟨X2, d2, rfl, _, s2⟩ := s2
  have HR2 := Aside.mk (HR1.out.below hb)
  have HA2 := Aside.mk (HA1.out.below hb)
  have HQ2 := Aside.mk (HQ1.out.below hb)
  have HB2 := Aside.mk (below_step HB1.out hb)
  have HX2 := Aside.mk (HX1.out.below hb)
  clear hb HR1 HA1 HQ1 HB1 HX1
  have HY2 := Aside.mk s2
  clear s2
  go_wp2_with fail
  refine (findWith (some ⟨w2.heap.size, 0, none⟩) 1 [verB] (some ⟨w2.heap.size + 1, 0, none⟩) 1 [aS] (fun _ => True) (fun _ => True) _ (((row_litB w2).mono fun _ _ _ => trivial).below ((Below.refl _ _).alloc (Nat.le_refl _) _)) (Nat.le_refl _) ((own_lit2 9 w2 (.cells #[.string ⟨#[97]⟩, .int .i64 0, .slice none 0 0, .slice none 0 0, .bool false] 62) 0 (fun _ => True) (Nat.zero_le _) aS).row.2.2.mono fun _ _ _ => trivial)).mono ?_
  rw [with_b.1, with_b.2]
  rintro e w3 ⟨v3, rfl, s3, hb⟩
  obtain ⟨X3, d3, rfl, _, s3⟩ := s3
  replace hb := below_step (w := w2) (((Below.refl _ _).alloc (Nat.le_refl _) _ : Below w2.heap.size w2 (w2.alloc (.cells #[.string ⟨#[97]⟩, .int .i64 0, .slice none 0 0, .slice none 0 0, .bool false] 62))).alloc (by simp) (.cells #[.string aS] 9)) hb
  have HR3 := Aside.mk (HR2.out.below hb)
  have HA3 := Aside.mk (HA2.out.below hb)
  have HQ3 := Aside.mk (HQ2.out.below hb)
  have HB3 := Aside.mk (below_step HB2.out hb)
  have HX3 := Aside.mk (HX2.out.below hb)
  have HY3 := Aside.mk (HY2.out.below hb)
  clear hb HR2 HA2 HQ2 HB2 HX2 HY2
  have HZ3 := Aside.mk s3
  clear s3
  go_wp2_with fail
  refine (equalSt X3 (some ⟨w3.heap.size, 0, none⟩) d3 1 [aS] [aS] _ (fun _ => True) _ (HZ3.out.below ((Below.refl _ _).alloc (Nat.le_refl _) _)) ((own_lit1 9 w3 0 (fun _ => True) (Nat.zero_le _) aS).row.2.2.mono fun _ _ _ => trivial)).mono ?_
  rw [decide_eq_true rfl]
  rintro e w4 ⟨rfl, hd⟩
  have hb := below_step (w := w3) ((Below.refl _ _).alloc (Nat.le_refl _) _) hd.below
  clear hd
  have HR4 := Aside.mk (HR3.out.below hb)
  have HA4 := Aside.mk (HA3.out.below hb)
  have HQ4 := Aside.mk (HQ3.out.below hb)
  have HB4 := Aside.mk (below_step HB3.out hb)
  have HX4 := Aside.mk (HX3.out.below hb)
  have HY4 := Aside.mk (HY3.out.below hb)
  have HZ4 := Aside.mk (HZ3.out.below hb)
  clear hb HR3 HA3 HQ3 HB3 HX3 HY3 HZ3
  clear HZ4
  go_wp2_with fail
  refine (refStore _ c l _ HWL.out _ HR4.out hc).mono ?_
  rw [H1.out]
  rintro e w5 ⟨rfl, hb⟩
  have HR5 := Aside.mk (HR4.out.below hb)
  have HA5 := Aside.mk (HA4.out.below hb)
  have HQ5 := Aside.mk (HQ4.out.below hb)
  have HB5 := Aside.mk (below_step HB4.out hb)
  have HX5 := Aside.mk (HX4.out.below hb)
  have HY5 := Aside.mk (HY4.out.below hb)
  clear hb HR4 HA4 HQ4 HB4 HX4 HY4
  have q5 := HQ5.out.two
  go_wp2_with fail
  refine (refId _ _).mono ?_
  rw [a1]
  rintro e w6 ⟨rfl, hb⟩
  clear q5
  have HR6 := Aside.mk (HR5.out.below hb)
  have HA6 := Aside.mk (HA5.out.below hb)
  have HQ6 := Aside.mk (HQ5.out.below hb)
  have HB6 := Aside.mk (below_step HB5.out hb)
  have HX6 := Aside.mk (HX5.out.below hb)
  have HY6 := Aside.mk (HY5.out.below hb)
  clear hb HR5 HA5 HQ5 HB5 HX5 HY5
  have q6 := HQ6.out.two
  go_wp2_with fail
  refine (refValue _ HFS.out _).mono ?_
  rw [a2]
  rintro e w7 ⟨rfl, hb⟩
  clear q6
  have HR7 := Aside.mk (HR6.out.below hb)
  have HA7 := Aside.mk (HA6.out.below hb)
  have HQ7 := Aside.mk (HQ6.out.below hb)
  have HB7 := Aside.mk (below_step HB6.out hb)
  have HX7 := Aside.mk (HX6.out.below hb)
  have HY7 := Aside.mk (HY6.out.below hb)
  clear hb HR6 HA6 HQ6 HB6 HX6 HY6
  have q7 := HQ7.out.two
  go_wp2_with fail
  refine (refBy _ c l f _ _ HR7.out H1.out).mono ?_
  rintro e w8 ⟨v8, rfl, s8, hb⟩
  obtain ⟨X8, d8, rfl, _, s8⟩ := s8
  clear q7
  have HR8 := Aside.mk (HR7.out.below hb)
  have HA8 := Aside.mk (HA7.out.below hb)
  have HQ8 := Aside.mk (HQ7.out.below hb)
  have HB8 := Aside.mk (below_step HB7.out hb)
  have HX8 := Aside.mk (HX7.out.below hb)
  have HY8 := Aside.mk (HY7.out.below hb)
  clear hb HR7 HA7 HQ7 HB7 HX7 HY7
  have HU8 := Aside.mk s8
  clear s8
  go_wp2_with fail
  refine (equalSt _ _ _ _ (byF l f (idsV l)) (byF l f (idsV l)) _ _ _ HX8.out HU8.out).mono ?_
  rw [decide_eq_true rfl]
  rintro e w9 ⟨rfl, hd⟩
  have hb := hd.below
  clear hd
  have HR9 := Aside.mk (HR8.out.below hb)
  have HA9 := Aside.mk (HA8.out.below hb)
  have HQ9 := Aside.mk (HQ8.out.below hb)
  have HB9 := Aside.mk (below_step HB8.out hb)
  have HX9 := Aside.mk (HX8.out.below hb)
  have HY9 := Aside.mk (HY8.out.below hb)
  have HU9 := Aside.mk (HU8.out.below hb)
  clear hb HR8 HA8 HQ8 HB8 HX8 HY8 HU8
  clear HX9 HU9
  go_wp2_with fail
  refine (refWith _ c l _ _ args _ _ _ HR9.out HA9.out H1.out).mono ?_
  rintro e w10 ⟨v10, rfl, s10, hb⟩
  obtain ⟨X10, d10, rfl, _, s10⟩ := s10
  have HR10 := Aside.mk (HR9.out.below hb)
  have HA10 := Aside.mk (HA9.out.below hb)
  have HQ10 := Aside.mk (HQ9.out.below hb)
  have HB10 := Aside.mk (below_step HB9.out hb)
  have HY10 := Aside.mk (HY9.out.below hb)
  clear hb HR9 HA9 HQ9 HB9 HY9
  have HV10 := Aside.mk s10
  clear s10
  go_wp2_with fail
  refine (equalSt _ _ _ _ (refW l args (idsV l)) (refW l args (idsV l)) _ _ _ HY10.out HV10.out).mono ?_
  rw [decide_eq_true rfl]
  rintro e w11 ⟨rfl, hd⟩
  have HB11 := Aside.mk (below_step HB10.out hd.below)
  clear hd
  go_wp2_with fail
  go_ret
  exact ⟨rfl, HB11.out⟩
theorem findSaysL (A : Option Addr) (c : Nat) (l : List Ver) (f : Fld) (Ar : Option Addr) (cr : Nat) (args : List ByteArray) (ok okr : Nat → Prop) (w : World) (hwl : StoWf l) (hfs : f.val.size ≤ 9223372036854775807) (hr : verR.Row w ok A l) (hc : l.length ≤ c) (ha : str.Row w okr Ar args) :
    Calls Tryd.prog 7 #[.slice A l.length c, .agg #[.string f.key, .string f.val], .slice Ar args.length cr] w fun e w' => e = .returned (.bool true) ∧ Below w.heap.size w w' := by
  by_cases h0 : storeErr l = 0
  · rcases by_ways l f h0 with ⟨h1, _⟩ | ⟨h1, _⟩ | ⟨h1, _⟩ <;> rcases with_ways l args h0 with ⟨h2, _⟩ | ⟨h2, _⟩
    · exact findSays_11 A c l f Ar cr args ok okr w hwl hfs hr hc ha h0 h1 h2
    · exact findSays_10 A c l f Ar cr args ok okr w hwl hfs hr hc ha h0 h1 h2
    · exact findSays_21 A c l f Ar cr args ok okr w hwl hfs hr hc ha h0 h1.1 h1.2 h2
    · exact findSays_20 A c l f Ar cr args ok okr w hwl hfs hr hc ha h0 h1.1 h1.2 h2
    · exact findSays_31 A c l f Ar cr args ok okr w hwl hfs hr hc ha h0 h1.1 h1.2 h2
    · exact findSays_30 A c l f Ar cr args ok okr w hwl hfs hr hc ha h0 h1.1 h1.2 h2
  · exact findSays_bad A c l f Ar cr args ok okr w hwl hfs hr hc ha (by simpa using h0)
end Go.Proofs.WK
