/-
  find.By (P28).
-/
import Derived.Test.YtljjiicjnoljbaaCon
import Derived.Test.YtljjiicjnoljbaaIds
import Derived.Test.YtljjiicjnoljbaaDat
import Derived.Test.YtljjiicjnoljbaaRec
namespace Go.Proofs.WK
open Go.RowKit Rp
set_option maxHeartbeats 4000000 in
set_option maxRecDepth 100000 in
theorem findBy (A : Option Addr) (c : Nat) (l : List Ver) (f : Fld) (ok : Nat → Prop) (w : World) (hr : verR.Row w ok A l) (hc : l.length ≤ c) :
    Calls Try.prog 79 #[.slice A l.length c, .agg #[.string f.key, .string f.val]] w fun e w' => ∃ v, e = .returned (.tuple #[v, .int .i64 (byErr l f)]) ∧ str.Sl w' (fun k => w.heap.size ≤ k) v (byV l f) ∧ Below w.heap.size w w' := by
  have hb : Below w.heap.size w (w.alloc (.cells #[.string f.key, .string f.val] 60)) := (Below.refl _ _).alloc (Nat.le_refl _) _
  have HR := Aside.mk (hr.below hb)
  have HQ := Aside.mk (Bk.made w [.string f.key, .string f.val] 60)
  have HB := Aside.mk hb
  clear hr hb
  by_cases h1 : storeErr l = 0
  · have H1 := Aside.mk h1
    have HV := Aside.mk (show (idsV l).length ≤ 5120 from Nat.le_trans (length_idsV l) (store_ok h1).1)
    rcases by_ways l f h1 with ⟨a1, HX⟩ | ⟨⟨a1, a2⟩, HX⟩ | ⟨⟨a1, a2⟩, HX⟩
    case inr.inr =>
      clear h1
      rw [HX.out.1, HX.out.2]
      go_enter Try.func79, Try.ntmps79
      go_wp2_with fail
      refine (storeIds _ c l _ _ HR.out hc).mono ?_
      rw [H1.out]
      rintro e w1 ⟨v1, rfl, s1, hb⟩
      generalize hids : idsV l = ids at *
      obtain ⟨X1, d1, rfl, _, s1⟩ := s1
      have HR1 := Aside.mk (HR.out.below hb)
      have HQ1 := Aside.mk (HQ.out.below hb)
      have HB1 := Aside.mk (below_step HB.out hb)
      have HI1 := Aside.mk s1
      have q1 := HQ1.out.two
      have HIDS := Aside.mk hids
      clear hb s1 HR HQ HB hids
      go_wp2_with (first
        | (go_at_call 105; refine (recId _ _).mono ?_; rw [a1]; rintro e w' ⟨rfl, rfl⟩)
        | (go_at_call 106; refine (recValue _ _).mono ?_; rw [a2]; rintro e w' ⟨rfl, rfl⟩))
      clear q1
      go_loopw [8, 33] (fun o i wr => ∃ k : Nat, k ≤ ids.length ∧ i = .int .i64 k ∧ Aside (str.Own 9 wr w1.heap.size (fun _ => False) o (byF l f (ids.take k))) ∧ Aside (Below w1.heap.size w1 wr)) (fun _ i _ => ids.length - (intOf i).toNat)
      case atStart => exact ⟨0, Nat.zero_le _, rfl, ⟨Own.nil _ _ _ _ _⟩, ⟨Below.refl _ _⟩⟩
      case round =>
        obtain ⟨k, hk, rfl, HO, HB2⟩ := hrel
        have hL5 := HV.out
        obtain ⟨Ao, co, rfl⟩ := Sl.form HO.out.sl
        by_cases hlt : k < ids.length
        · have p0 : (0 : Int) ≤ (k : Int) := by omega
          have p1 : (k : Int) < (ids.length : Int) := by omega
          obtain ⟨ad, rfl, _, x0⟩ := str_at (HI1.out.below HB2.out) hlt
          have hstep := byF_step (l := l) (f := f) hlt
          have HLN := Aside.mk (byF_len l f ids k)
          have HSTEP := Aside.mk hstep
          clear hstep
          go_wp2_with fail
          refine (storeGet A c l ids[k] _ _ (HR1.out.below HB2.out) hc).mono ?_
          rintro e w2 ⟨v2, v3, rfl, s2, s3, hb⟩
          have hgr := HSTEP.out
          generalize getR l ids[k] = gr at *
          have HST := Aside.mk hgr
          clear hgr HSTEP
          obtain ⟨X2, d2, rfl, _, s2⟩ := s2
          obtain ⟨X3, d3, rfl⟩ := Sl.form s3
          have hal : Below w2.heap.size w2 (w2.alloc (.cells #[.string gr.id, .int .i64 gr.cats, .slice X2 gr.fields.length d2, .slice X3 gr.refs.length d3] 58)) := (Below.refl _ _).alloc (Nat.le_refl _) _
          have HF3 := Aside.mk (s2.below hal)
          have HO3 := Aside.mk ((HO.out.below hb).below hal)
          have HB3 := Aside.mk (below_step (below_step HB2.out hb) hal)
          have q3 := (HQ1.out.below HB3.out).two
          clear hb s2 s3 hal
          cases hin : decide (f ∈ gr.fields) with
          | false =>
            have HE := Aside.mk (HST.out.trans (if_neg (of_decide_eq_false hin)))
            go_wp2_with (go_at_call 107; refine (containsFld _ _ gr.fields f _ _ HF3.out).mono ?_; rw [hin]; rintro e w4 ⟨rfl, hb⟩
                         have HO4 := Aside.mk (HO3.out.below hb); have HB4 := Aside.mk (below_step HB3.out hb); clear hb)
            refine ⟨⟨k + 1, by omega, by go_num, ⟨by rw [HE.out]; exact HO4.out⟩, HB4⟩, by simp [intOf]; omega⟩
          | true =>
            have HE := Aside.mk (HST.out.trans (if_pos (of_decide_eq_true hin)))
            have HL4 : Aside (((byF l f (ids.take k)).length + 1) * 16 ≤ 140737488355328) := ⟨by have := HLN.out; omega⟩
            go_wp2_with (first
              | (go_at_call 107; refine (containsFld _ _ gr.fields f _ _ HF3.out).mono ?_; rw [hin]; rintro e w4 ⟨rfl, hb⟩
                 have HO4 := Aside.mk (HO3.out.below hb); have HB4 := Aside.mk (below_step HB3.out hb); clear hb)
              | (at_builtin
                 refine list_one (w0 := w4.alloc (.cells #[.string ids[k]] 9)) str w1.heap.size rfl (.tmp 47) (.tmp 49) 22 9 (.string ByteArray.empty) 16 rfl Try.underlying22 infoSt rfl Nat.one_pos (Nat.succ_pos _) (.slice Ao (byF l f (ids.take k)).length co) (byF l f (ids.take k)) ids[k] [.string ids[k]] (fun _ => False) w4.heap.size 1 rfl rfl (blk_new w4 _ _) rfl (HO4.out.below ((Below.refl _ _).alloc (Nat.le_refl _) _)) (Below.refl _ _) (Nat.le_trans HB4.out.size (by simp)) HL4.out ?_
                 intro v1 w5 HO1 HB1 hg hat
                 have HO5 := Aside.mk HO1
                 have HB5 := Aside.mk ((HB4.out.alloc HB4.out.size _).grown hg (Nat.le_trans HB4.out.size (by simp)) (fun j hj => (HO4.out.lt j hj).1))
                 clear HO1 HB1 hg hat))
            refine ⟨⟨k + 1, by omega, by go_num, ⟨by rw [HE.out]; exact HO5.out⟩, HB5⟩, by simp [intOf]; omega⟩
        · obtain rfl : k = ids.length := by omega
          have h := HO.out
          rw [List.take_length] at h
          have HE := Aside.mk h
          clear h
          go_wp2_with fail
          go_ret2
          exact ⟨.slice Ao (byF l f ids).length co, by rw [List.take_length]; first | done | rfl, by rw [HIDS.out]; exact HE.out.sl.mono fun j hj _ => hj.elim False.elim fun hj => Nat.le_trans HB1.out.size (HE.out.lt j hj).1, below_step HB1.out HB2.out⟩
    all_goals
      clear h1
      rw [HX.out.1, HX.out.2]
      go_enter Try.func79, Try.ntmps79
      go_wp2_with fail
      refine (storeIds _ c l _ _ HR.out hc).mono ?_
      rw [H1.out]
      rintro e w1 ⟨v1, rfl, s1, hb⟩
      obtain ⟨X1, d1, rfl⟩ := Sl.form s1
      have q1 := (HQ.out.below hb).two
      have HB1 := Aside.mk (below_step HB.out hb)
      clear hb s1
      go_wp2_with (first
        | (go_at_call 105; refine (recId _ _).mono ?_; rw [a1]; rintro e w' ⟨rfl, rfl⟩)
        | (go_at_call 106; refine (recValue _ _).mono ?_; rw [a2]; rintro e w' ⟨rfl, rfl⟩))
      go_ret2
      exact ⟨_, rfl, Sl.nil _ _ _, HB1.out⟩
  · have e1 : byErr l f = storeErr l := if_pos h1
    have e2 : byV l f = [] := by rw [byV, e1, if_neg h1]
    have g3 : (storeErr l != 0) = true := by simp [h1]
    rw [e1, e2]
    clear e1 e2 h1
    go_enter Try.func79, Try.ntmps79
    go_wp2_with fail
    refine (storeIds _ c l _ _ HR.out hc).mono ?_
    rintro e w1 ⟨v1, rfl, s1, hb⟩
    obtain ⟨X1, d1, rfl⟩ := Sl.form s1
    have HB1 := Aside.mk (below_step HB.out hb)
    clear hb s1
    go_wp2_with fail
    go_ret2
    exact ⟨_, rfl, Sl.nil _ _ _, HB1.out⟩
end Go.Proofs.WK
