/-
  wyref.With (P29, as the document's answer).
-/
import Derived.Test.YtljjiicjnoljbaaDoorRefBy
namespace Go.Proofs.WK
open Go.RowKit Rp
theorem refIn_gone {l : List Ver} {ids : List ByteArray} {id : ByteArray} {m : Nat} (hm : m < ids.length) (h : ¬ 0 ≤ getI l ids[m]) : refInK l ids id (m + 1) = refInK l ids id m := by
  rw [refIn_step hm, decide_eq_false h, Bool.false_and, Bool.or_false]
theorem refIn_no {l : List Ver} {ids : List ByteArray} {id : ByteArray} {m : Nat} (hm : m < ids.length) (h : decide (id ∈ (getR l ids[m]).refs) = false) : refInK l ids id (m + 1) = refInK l ids id m := by
  rw [refIn_step hm, h, Bool.and_false, Bool.or_false]
theorem refIn_yes {l : List Ver} {ids : List ByteArray} {id : ByteArray} {m : Nat} (hm : m < ids.length) (hg : 0 ≤ getI l ids[m]) (h : decide (id ∈ (getR l ids[m]).refs) = true) : refInK l ids id (m + 1) = true := by
  rw [refIn_step hm, h, decide_eq_true hg, Bool.true_and, Bool.or_true]
theorem refIn_zero (l : List Ver) (ids : List ByteArray) (id : ByteArray) : refInK l ids id 0 = decide (id ∈ ids) := by simp [refInK]
set_option maxHeartbeats 4000000 in
set_option maxRecDepth 100000 in
theorem refWith (A : Option Addr) (c : Nat) (l : List Ver) (Ar : Option Addr) (cr : Nat) (args : List ByteArray) (ok okr : Nat → Prop) (w : World) (hr : verR.Row w ok A l) (ha : str.Row w okr Ar args) (h0 : storeErr l = 0) :
    Calls Tryd.prog 47 #[.slice A l.length c, .slice Ar args.length cr] w fun e w' => ∃ v, e = .returned v ∧ str.Sl w' (fun k => w.heap.size ≤ k) v (refW l args (idsV l)) ∧ Below w.heap.size w w' := by
  have HR := Aside.mk hr
  have HA := Aside.mk ha
  have ba := ha.1
  have H0 := Aside.mk h0
  have HV := Aside.mk (show (idsV l).length ≤ 5120 from Nat.le_trans (length_idsV l) (store_ok h0).1)
  have HGT := Aside.mk (fun z (hz : 0 ≤ getI l z) => get_there h0 ((mem_ids_get h0 z).2 hz))
  clear hr ha h0
  go_enter Tryd.func47, Tryd.ntmps47
  go_wp2_with fail
  refine (refIds _ c l _ _ HR.out H0.out).mono ?_
  rintro e w1 ⟨v1, rfl, s1, hb⟩
  generalize hids : idsV l = ids at *
  have HIDS := Aside.mk hids
  obtain ⟨X1, d1, rfl, _, s1⟩ := s1
  have HR1 := Aside.mk (HR.out.below hb)
  have HA1 := Aside.mk (HA.out.below hb)
  have HB1 := Aside.mk hb
  have HI1 := Aside.mk s1
  clear hb s1 HR HA hids
  go_wp2_with fail
  go_loopw [5, 15] (fun o i wr => ∃ k : Nat, k ≤ ids.length ∧ i = .int .i64 k ∧ Aside (str.Own 9 wr w1.heap.size (fun _ => False) o (refW l args (ids.take k))) ∧ Aside (Below w1.heap.size w1 wr)) (fun _ i _ => ids.length - (intOf i).toNat)
  case atStart => exact ⟨0, Nat.zero_le _, rfl, ⟨Own.nil _ _ _ _ _⟩, ⟨Below.refl _ _⟩⟩
  case round =>
    obtain ⟨k, hk, rfl, HO, HB2⟩ := hrel
    have hL5 := HV.out
    obtain ⟨Ao, co, rfl⟩ := Sl.form HO.out.sl
    by_cases hlt : k < ids.length
    · have p0 : (0 : Int) ≤ (k : Int) := by omega
      have p1 : (k : Int) < (ids.length : Int) := by omega
      obtain ⟨ad, rfl, _, x0⟩ := str_at (HI1.out.below HB2.out) hlt
      have HSTEP := Aside.mk (refW_step (l := l) (ids := args) hlt)
      have HLN := Aside.mk (refW_len l args ids k)
      have HZ := Aside.mk (refIn_zero l args ids[k])
      go_wp2_with (go_at_call 88; refine (containsS _ _ args ids[k] _ _ (HA1.out.below HB2.out)).mono ?_; rintro e w2 ⟨rfl, rfl⟩)
      go_loopw [8, 24] (fun x i wr => ∃ m : Nat, m ≤ args.length ∧ i = .int .i64 m ∧ x = .bool (refInK l args ids[k] m) ∧ Aside (str.Own 9 wr w1.heap.size (fun _ => False) (.slice Ao (refW l args (ids.take k)).length co) (refW l args (ids.take k))) ∧ Aside (Below w1.heap.size w1 wr)) (fun _ i _ => args.length - (intOf i).toNat)
      case atStart => exact ⟨0, Nat.zero_le _, rfl, by rw [HZ.out], HO, HB2⟩
      case round =>
        clear HO HB2 x0
        obtain ⟨m, hm, rfl, rfl, HO, HB4⟩ := hrel
        by_cases hmt : m < args.length
        · have m0 : (0 : Int) ≤ (m : Int) := by omega
          have m1 : (m : Int) < (args.length : Int) := by omega
          obtain ⟨ad3, rfl, _, x1⟩ := str_at (HA1.out.below HB4.out) hmt
          by_cases hg : 0 ≤ getI l args[m]
          · obtain ⟨j, hj, hgi, _, hgr⟩ := HGT.out _ hg
            obtain ⟨ad2, A1, c1, A2, c2, rfl, _, _, _, _, z3, _, _, _, _, r2⟩ := ver_at HR1.out hj
            have j0 : (0 : Int) ≤ (j : Int) := by omega
            have j1 : (j : Int) < (l.length : Int) := by omega
            have HGI := Aside.mk hgi
            have HF := Aside.mk r2
            have Z3 := Aside.mk z3
            cases hin : decide (ids[k] ∈ l[j].r.refs) with
            | true =>
              have HE := Aside.mk (refIn_yes hmt hg (by rw [hgr]; exact hin))
              clear hgi hgr r2 hg z3
              go_wp2_with fail
              refine (refGet _ _ _ l args[m] _ _ (HR1.out.below HB4.out) rfl).mono ?_
              rw [HGI.out]
              rintro e w2 ⟨rfl, hb⟩
              have HO5 := Aside.mk (HO.out.below hb)
              have HB5 := Aside.mk (below_step HB4.out hb)
              have y3 := cell_below HB5.out Z3.out
              clear hb
              go_wp2_with (go_at_call 88; refine (containsS _ _ l[j].r.refs ids[k] _ _ (HF.out.below HB5.out)).mono ?_; rw [hin]; rintro e w2 ⟨rfl, rfl⟩)
              refine ⟨⟨m + 1, by omega, by go_num, by rw [HE.out], HO5, HB5⟩, by simp [intOf]; omega⟩
            | false =>
              have HE := Aside.mk (refIn_no hmt (by rw [hgr]; exact hin))
              clear hgi hgr r2 hg z3
              go_wp2_with fail
              refine (refGet _ _ _ l args[m] _ _ (HR1.out.below HB4.out) rfl).mono ?_
              rw [HGI.out]
              rintro e w2 ⟨rfl, hb⟩
              have HO5 := Aside.mk (HO.out.below hb)
              have HB5 := Aside.mk (below_step HB4.out hb)
              have y3 := cell_below HB5.out Z3.out
              clear hb
              go_wp2_with (go_at_call 88; refine (containsS _ _ l[j].r.refs ids[k] _ _ (HF.out.below HB5.out)).mono ?_; rw [hin]; rintro e w2 ⟨rfl, rfl⟩)
              refine ⟨⟨m + 1, by omega, by go_num, by rw [HE.out], HO5, HB5⟩, by simp [intOf]; omega⟩
          · have HE := Aside.mk (refIn_gone (id := ids[k]) hmt hg)
            have g1 : decide ((0 : Int) ≤ getI l args[m]) = false := decide_eq_false hg
            clear hg
            go_wp2_with fail
            refine (refGet _ _ _ l args[m] _ _ (HR1.out.below HB4.out) rfl).mono ?_
            rintro e w2 ⟨rfl, hb⟩
            have HO5 := Aside.mk (HO.out.below hb)
            have HB5 := Aside.mk (below_step HB4.out hb)
            clear hb
            go_wp2_with fail
            refine ⟨⟨m + 1, by omega, by go_num, by rw [HE.out], HO5, HB5⟩, by simp [intOf]; omega⟩
        · obtain rfl : m = args.length := by omega
          cases hin : refInK l args ids[k] args.length with
          | false =>
            have HE := Aside.mk (HSTEP.out.trans (if_neg (by rw [hin]; simp)))
            go_wp2_with fail
            refine ⟨⟨k + 1, by omega, by go_num, ⟨by rw [HE.out]; exact HO.out⟩, HB4⟩, by simp [intOf]; omega⟩
          | true =>
            have HE := Aside.mk (HSTEP.out.trans (if_pos hin))
            have HL4 : Aside (((refW l args (ids.take k)).length + 1) * 16 ≤ 140737488355328) := ⟨by have := HLN.out; omega⟩
            go_wp2_with (at_builtin
                         refine list_one (w0 := wr.alloc (.cells #[.string ids[k]] 9)) str w1.heap.size rfl (.tmp 45) (.tmp 47) 33 9 (.string ByteArray.empty) 16 rfl Tryd.underlying33 infoSt rfl Nat.one_pos (Nat.succ_pos _) (.slice Ao (refW l args (ids.take k)).length co) (refW l args (ids.take k)) ids[k] [.string ids[k]] (fun _ => False) wr.heap.size 1 rfl rfl (blk_new wr _ _) rfl (HO.out.below ((Below.refl _ _).alloc (Nat.le_refl _) _)) (Below.refl _ _) (Nat.le_trans HB4.out.size (by simp)) HL4.out ?_
                         intro v1 w5 HO1 HB1 hg hat
                         have HO5 := Aside.mk HO1
                         have HB5 := Aside.mk ((HB4.out.alloc HB4.out.size _).grown hg (Nat.le_trans HB4.out.size (by simp)) (fun j hj => (HO.out.lt j hj).1))
                         clear HO1 HB1 hg hat)
            refine ⟨⟨k + 1, by omega, by go_num, ⟨by rw [HE.out]; exact HO5.out⟩, HB5⟩, by simp [intOf]; omega⟩
    · obtain rfl : k = ids.length := by omega
      have h := HO.out
      rw [List.take_length] at h
      have HE := Aside.mk h
      clear h
      go_wp2_with fail
      go_ret
      exact ⟨.slice Ao (refW l args ids).length co, by rw [List.take_length]; first | done | rfl, by rw [HIDS.out]; exact HE.out.sl.mono fun j hj _ => hj.elim False.elim fun hj => Nat.le_trans HB1.out.size (HE.out.lt j hj).1, below_step HB1.out HB2.out⟩
end Go.Proofs.WK
