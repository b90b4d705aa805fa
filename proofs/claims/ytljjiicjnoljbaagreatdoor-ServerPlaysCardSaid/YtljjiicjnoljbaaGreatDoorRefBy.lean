/-
  wyref.By, With (P28, P29, as the document's answer).
-/
import Derived.Test.YtljjiicjnoljbaaGreatDoorRefIds
import Derived.Test.YtljjiicjnoljbaaGreatDoorFnd0
import Derived.Test.YtljjiicjnoljbaaGreatDoorWithP
namespace Go.Proofs.WK
open Go.RowKit Rp
set_option maxHeartbeats 4000000 in
set_option maxRecDepth 100000 in
theorem refBy (A : Option Addr) (c : Nat) (l : List Ver) (f : Fld) (ok : Nat → Prop) (w : World) (hr : verR.Row w ok A l) (h0 : storeErr l = 0) :
    Calls Tryz.prog 106 #[.slice A l.length c, .agg #[.string f.key, .string f.val]] w fun e w' => ∃ v, e = .returned v ∧ str.Sl w' (fun k => w.heap.size ≤ k) v (byF l f (idsV l)) ∧ Below w.heap.size w w' := by
  have hb : Below w.heap.size w (w.alloc (.cells #[.string f.key, .string f.val] 38)) := (Below.refl _ _).alloc (Nat.le_refl _) _
  have HR := Aside.mk (hr.below hb)
  have HQ := Aside.mk (Bk.made w [.string f.key, .string f.val] 38)
  have HB := Aside.mk hb
  have H0 := Aside.mk h0
  have HV := Aside.mk (show (idsV l).length ≤ 5120 from Nat.le_trans (length_idsV l) (store_ok h0).1)
  have hnq := eqlFld
  have hgd := guardFld
  clear hr hb h0
  go_enter Tryz.func106, Tryz.ntmps106
  go_wp2_with fail
  refine (refIds _ c l _ _ HR.out H0.out).mono ?_
  rintro e w1 ⟨v1, rfl, s1, hb⟩
  have HGT := Aside.mk (fun z => get_there (z := z) H0.out)
  generalize hids : idsV l = ids at *
  have HIDS := Aside.mk hids
  obtain ⟨X1, d1, rfl, _, s1⟩ := s1
  have HR1 := Aside.mk (HR.out.below hb)
  have HQ1 := Aside.mk (HQ.out.below hb)
  have HB1 := Aside.mk (below_step HB.out hb)
  have HI1 := Aside.mk s1
  clear hb s1 HR HQ HB hids
  go_wp2_with fail
  go_loopw [5, 13] (fun o i wr => ∃ k : Nat, k ≤ ids.length ∧ i = .int .i64 k ∧ Aside (str.Own 9 wr w1.heap.size (fun _ => False) o (byF l f (ids.take k))) ∧ Aside (Below w1.heap.size w1 wr)) (fun _ i _ => ids.length - (intOf i).toNat)
  case atStart => exact ⟨0, Nat.zero_le _, rfl, ⟨Own.nil _ _ _ _ _⟩, ⟨Below.refl _ _⟩⟩
  case round =>
    obtain ⟨k, hk, rfl, HO, HB2⟩ := hrel
    have hL5 := HV.out
    obtain ⟨Ao, co, rfl⟩ := Sl.form HO.out.sl
    by_cases hlt : k < ids.length
    · have p0 : (0 : Int) ≤ (k : Int) := by omega
      have p1 : (k : Int) < (ids.length : Int) := by omega
      obtain ⟨ad, rfl, _, x0⟩ := str_at (HI1.out.below HB2.out) hlt
      obtain ⟨j, hj, hgi, _, hgr⟩ := HGT.out _ (List.getElem_mem hlt)
      have hstep := byF_step (l := l) (f := f) hlt
      rw [hgr] at hstep
      have hfl := rec_ok (store_rec H0.out l[j] (List.getElem_mem hj))
      have HND := Aside.mk (byM_end (f := f) (id := ids[k]) (flds_nodup hfl.2.2.2.2.2.1))
      have hf6 := hfl.2.2.2.1
      have HSTEP := Aside.mk hstep
      have HLN := Aside.mk (byF_len l f ids k)
      have HGI := Aside.mk hgi
      clear hstep hgi hgr hfl
      go_wp2_with fail
      refine (refGet _ _ _ l ids[k] _ _ (HR1.out.below HB2.out) rfl).mono ?_
      rw [HGI.out]
      rintro e w2 ⟨rfl, hb⟩
      obtain ⟨ad2, A1, c1, A2, c2, rfl, _, _, _, z2, _, _, _, _, r1, _⟩ := ver_at HR1.out hj
      have HO3 := Aside.mk (HO.out.below hb)
      have HB3 := Aside.mk (below_step HB2.out hb)
      have HF := Aside.mk r1
      have y2 := cell_below HB3.out z2
      have j0 : (0 : Int) ≤ (j : Int) := by omega
      have j1 : (j : Int) < (l.length : Int) := by omega
      clear hb r1 z2
      go_wp2_with fail
      go_loopw [5, 26] (fun o i wr => ∃ m : Nat, m ≤ l[j].r.fields.length ∧ i = .int .i64 m ∧ Aside (str.Own 9 wr w1.heap.size (fun _ => False) o (byF l f (ids.take k) ++ byM f l[j].r.fields ids[k] m)) ∧ Aside (Below w1.heap.size w1 wr)) (fun _ i _ => l[j].r.fields.length - (intOf i).toNat)
      case atStart => exact ⟨0, Nat.zero_le _, rfl, ⟨by rw [show byM f l[j].r.fields ids[k] 0 = [] from rfl, List.append_nil]; exact HO3.out⟩, HB3⟩
      case round =>
        clear HO HO3 HB2 HB3 y2
        obtain ⟨m, hm, rfl, HO, HB4⟩ := hrel
        obtain ⟨Ao, co, rfl⟩ := Sl.form HO.out.sl
        by_cases hmt : m < l[j].r.fields.length
        · have m0 : (0 : Int) ≤ (m : Int) := by omega
          have m1 : (m : Int) < (l[j].r.fields.length : Int) := by omega
          obtain ⟨ad3, rfl, _, x1, x2⟩ := fld_at (HF.out.below HB4.out) hmt
          have hal : Below wr.heap.size wr (wr.alloc (.cells #[.string l[j].r.fields[m].key, .string l[j].r.fields[m].val] 38)) := (Below.refl _ _).alloc (Nat.le_refl _) _
          have HOa := Aside.mk (HO.out.below hal)
          have HBa := Aside.mk (below_step HB4.out hal)
          have q3 := (HQ1.out.below HB4.out).two
          have HML := Aside.mk (byM_len f l[j].r.fields ids[k] m)
          clear hal
          by_cases he : f = l[j].r.fields[m]
          · have q := fld_eq he
            have HE := Aside.mk ((byM_step (id := ids[k]) hmt).trans (if_pos he))
            have HL4 : Aside (((byF l f (ids.take k) ++ byM f l[j].r.fields ids[k] m).length + 1) * 16 ≤ 140737488355328) := ⟨by have := HLN.out; have := HML.out; rw [List.length_append]; omega⟩
            clear he
            go_wp2_with (at_builtin
                         refine list_one (w0 := (wr.alloc (.cells #[.string l[j].r.fields[m].key, .string l[j].r.fields[m].val] 38)).alloc (.cells #[.string ids[k]] 9)) str w1.heap.size rfl (.tmp 33) (.tmp 35) 34 9 (.string ByteArray.empty) 16 rfl Tryz.underlying34 infoSt rfl Nat.one_pos (Nat.succ_pos _) (.slice Ao (byF l f (ids.take k) ++ byM f l[j].r.fields ids[k] m).length co) (byF l f (ids.take k) ++ byM f l[j].r.fields ids[k] m) ids[k] [.string ids[k]] (fun _ => False) (wr.heap.size + 1) 1 rfl rfl (blk_new2 wr _ _ _) rfl (HOa.out.below ((Below.refl _ _).alloc (Nat.le_refl _) _)) (Below.refl _ _) (Nat.le_trans HBa.out.size (by simp)) HL4.out ?_
                         intro v1 w5 HO1 HB1 hg hat
                         have HO5 := Aside.mk HO1
                         have HB5 := Aside.mk ((HBa.out.alloc HBa.out.size _).grown hg (Nat.le_trans HBa.out.size (by simp)) (fun j hj => (HOa.out.lt j hj).1))
                         clear HO1 HB1 hg hat)
            refine ⟨⟨m + 1, by omega, by go_num, ⟨by rw [HE.out, ← List.append_assoc]; exact HO5.out⟩, HB5⟩, by simp [intOf]; omega⟩
          · have q := fld_ne he
            have HE := Aside.mk ((byM_step (id := ids[k]) hmt).trans (if_neg he))
            clear he
            go_wp2_with fail
            refine ⟨⟨m + 1, by omega, by go_num, ⟨by rw [HE.out]; exact HOa.out⟩, HBa⟩, by simp [intOf]; omega⟩
        · obtain rfl : m = l[j].r.fields.length := by omega
          have HE : Aside (byF l f (ids.take (k + 1)) = byF l f (ids.take k) ++ byM f l[j].r.fields ids[k] l[j].r.fields.length) := ⟨by
            rw [HSTEP.out, HND.out]
            split <;> simp⟩
          go_wp2_with fail
          refine ⟨⟨k + 1, by omega, by go_num, ⟨by rw [HE.out]; exact HO.out⟩, HB4⟩, by simp [intOf]; omega⟩
    · obtain rfl : k = ids.length := by omega
      have h := HO.out
      rw [List.take_length] at h
      have HE := Aside.mk h
      clear h
      go_wp2_with fail
      go_ret
      exact ⟨.slice Ao (byF l f ids).length co, by rw [List.take_length]; first | done | rfl, by rw [HIDS.out]; exact HE.out.sl.mono fun j hj _ => hj.elim False.elim fun hj => Nat.le_trans HB1.out.size (HE.out.lt j hj).1, below_step HB1.out HB2.out⟩
end Go.Proofs.WK
