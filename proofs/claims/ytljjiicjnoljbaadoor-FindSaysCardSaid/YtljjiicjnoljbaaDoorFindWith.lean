/-
  find.With (P29).
-/
import Derived.Test.YtljjiicjnoljbaaDoorFindBy
import Derived.Test.YtljjiicjnoljbaaDoorWithP
import Derived.Test.YtljjiicjnoljbaaDoorComp
namespace Go.Proofs.WK
open Go.RowKit Rp
theorem own_lit2 (t : TypeId) (w : World) (o : Obj) (base : Nat) (ok : Nat → Prop) (hb : base ≤ w.heap.size) (x : ByteArray) : str.Own t ((w.alloc o).alloc (.cells #[.string x] t)) base ok (.slice (some ⟨w.heap.size + 1, 0, none⟩) 1 1) [x] := by
  have h := Own.lit str t (w.alloc o) base ok (Nat.le_trans hb (by simp)) (reps_str (w.alloc o) ok [x]) (by simp)
  rwa [show (w.alloc o).heap.size = w.heap.size + 1 by simp] at h
def wStep (l : List Ver) (all args : List ByteArray) (k : Nat) (r : List ByteArray) (m : Nat) : List ByteArray := wAll l all (args.take k) ++ wOne all (r.take m)
theorem wStep_zero (l : List Ver) (all args : List ByteArray) (k : Nat) (r : List ByteArray) : wStep l all args k r 0 = wAll l all (args.take k) := by
  unfold wStep
  rw [show wOne all (r.take 0) = [] from rfl, List.append_nil]
theorem wStep_no {l : List Ver} {all args : List ByteArray} {k : Nat} {r : List ByteArray} {m : Nat} (hm : m < r.length) (h : decide (r[m] ∈ all) = false) : wStep l all args k r (m + 1) = wStep l all args k r m := by
  unfold wStep
  rw [wOne_step hm, if_neg (of_decide_eq_false h), List.append_nil]
theorem wStep_yes {l : List Ver} {all args : List ByteArray} {k : Nat} {r : List ByteArray} {m : Nat} (hm : m < r.length) (h : decide (r[m] ∈ all) = true) : wStep l all args k r (m + 1) = wStep l all args k r m ++ [r[m]] := by
  unfold wStep
  rw [wOne_step hm, if_pos (of_decide_eq_true h), List.append_assoc]
theorem wStep_len (l : List Ver) (all args : List ByteArray) (k : Nat) (r : List ByteArray) (m : Nat) : (wStep l all args k r m).length ≤ (wAll l all (args.take k)).length + r.length := by
  have h := wOne_len all (r.take m)
  rw [List.length_take] at h
  unfold wStep
  rw [List.length_append]
  omega
set_option maxHeartbeats 8000000 in
set_option maxRecDepth 100000 in
theorem findWith (A : Option Addr) (c : Nat) (l : List Ver) (Ar : Option Addr) (cr : Nat) (args : List ByteArray) (ok okr : Nat → Prop) (w : World) (hr : verR.Row w ok A l) (hc : l.length ≤ c) (ha : str.Row w okr Ar args) :
    Calls Tryd.prog 43 #[.slice A l.length c, .slice Ar args.length cr] w fun e w' => ∃ v, e = .returned (.tuple #[v, .int .i64 (withErr l args)]) ∧ str.Sl w' (fun k => w.heap.size ≤ k) v (withV l args) ∧ Below w.heap.size w w' := by
  have HR := Aside.mk hr
  have HA := Aside.mk ha
  have ba := ha.1
  clear hr ha
  by_cases h1 : storeErr l = 0
  · have H1 := Aside.mk h1
    by_cases h60 : 60 < args.length
    · have e1 : withErr l args = 2 := by rw [withErr, if_neg (by simpa using h1), if_pos h60]
      have e2 : withV l args = [] := by rw [withV, e1]; rfl
      have g60 : decide ((60 : Int) < (args.length : Int)) = true := by simp; omega
      rw [e1, e2]
      clear e1 e2 h1 h60
      go_enter Tryd.func43, Tryd.ntmps43
      go_wp2_with fail
      refine (storeIds _ c l _ _ HR.out hc).mono ?_
      rw [H1.out]
      rintro e w1 ⟨v1, rfl, s1, hb⟩
      obtain ⟨X1, d1, rfl⟩ := Sl.form s1
      have HB1 := Aside.mk hb
      clear hb s1
      go_wp2_with fail
      go_ret2
      exact ⟨_, rfl, Sl.nil _ _ _, HB1.out⟩
    · have e1 : withErr l args = 0 := by rw [withErr, if_neg (by simpa using h1), if_neg h60]
      have e2 : withV l args = compS (sortS (wAll l (idsV l) args)) := by rw [withV, if_pos e1]
      have g60 : decide ((60 : Int) < (args.length : Int)) = false := by simp; omega
      have hle : args.length ≤ 60 := by omega
      have HLE := Aside.mk hle
      have HGT := Aside.mk (fun z => get_there (z := z) h1)
      have HW := Aside.mk (wAll_len l (idsV l) fun id hid => by
        obtain ⟨j, hj, _, _, e⟩ := get_there h1 hid
        rw [e]
        exact (rec_ok (store_rec h1 l[j] (List.getElem_mem hj))).2.2.2.2.1)
      have HRF := Aside.mk (fun id (hid : id ∈ idsV l) => show (getR l id).refs.length ≤ 4 by
        obtain ⟨j, hj, _, _, e⟩ := get_there h1 hid
        rw [e]
        exact (rec_ok (store_rec h1 l[j] (List.getElem_mem hj))).2.2.2.2.1)
      rw [e1, e2]
      clear e1 e2 h1 h60 hle
      go_enter Tryd.func43, Tryd.ntmps43
      go_wp2_with fail
      refine (storeIds _ c l _ _ HR.out hc).mono ?_
      rw [H1.out]
      rintro e w1 ⟨v1, rfl, s1, hb⟩
      generalize hids : idsV l = ids at *
      have HIDS := Aside.mk hids
      obtain ⟨X1, d1, rfl, _, s1⟩ := s1
      have HR1 := Aside.mk (HR.out.below hb)
      have HA1 := Aside.mk (HA.out.below hb)
      have HB1 := Aside.mk hb
      have HI1 := Aside.mk s1
      clear hb s1 HR HA hids
      go_wp2_with fail
      go_loopw [8, 28] (fun o i wr => ∃ k : Nat, k ≤ args.length ∧ i = .int .i64 k ∧ Aside (str.Own 9 wr w1.heap.size (fun _ => False) o (wAll l ids (args.take k))) ∧ Aside (Below w1.heap.size w1 wr)) (fun _ i _ => args.length - (intOf i).toNat)
      case atStart => exact ⟨0, Nat.zero_le _, rfl, ⟨Own.nil _ _ _ _ _⟩, ⟨Below.refl _ _⟩⟩
      case round =>
        obtain ⟨k, hk, rfl, HO, HB2⟩ := hrel
        have hL60 := HLE.out
        obtain ⟨Ao, co, rfl⟩ := Sl.form HO.out.sl
        by_cases hlt : k < args.length
        · have p0 : (0 : Int) ≤ (k : Int) := by omega
          have p1 : (k : Int) < (args.length : Int) := by omega
          obtain ⟨ad, rfl, _, x0⟩ := str_at (HA1.out.below HB2.out) hlt
          have HSTEP := Aside.mk (wAll_step (l := l) (all := ids) hlt)
          have hwl : (wAll l ids (args.take k)).length ≤ 300 := Nat.le_trans (HW.out _) (by rw [List.length_take]; omega)
          have HWL := Aside.mk hwl
          clear hwl
          cases hin : decide (args[k] ∈ ids) with
          | false =>
            have HE := Aside.mk (HSTEP.out.trans (by rw [if_neg (of_decide_eq_false hin), List.append_nil]))
            go_wp2_with (go_at_call 88; refine (containsS _ _ ids args[k] _ _ (HI1.out.below HB2.out)).mono ?_; rw [hin]; rintro e w2 ⟨rfl, rfl⟩)
            refine ⟨⟨k + 1, by omega, by go_num, ⟨by rw [HE.out]; exact HO.out⟩, HB2⟩, by simp [intOf]; omega⟩
          | true =>
            have hmem := of_decide_eq_true hin
            have HE := Aside.mk (HSTEP.out.trans (by rw [if_pos hmem]))
            have HR4 := Aside.mk (HRF.out _ hmem)
            clear hmem
            go_wp2_with (go_at_call 88; refine (containsS _ _ ids args[k] _ _ (HI1.out.below HB2.out)).mono ?_; rw [hin]; rintro e w2 ⟨rfl, rfl⟩)
            refine (storeGet A c l args[k] _ _ (HR1.out.below HB2.out) hc).mono ?_
            rintro e w2 ⟨v2, v3, rfl, s2, s3, hb⟩
            have hE := HE.out
            have hR4 := HR4.out
            clear HE HR4 HSTEP
            generalize getR l args[k] = gr at *
            have HE := Aside.mk hE
            have HR4 := Aside.mk hR4
            obtain ⟨X2, d2, rfl⟩ := Sl.form s2
            obtain ⟨X3, d3, rfl, _, s3⟩ := s3
            have hal : Below w2.heap.size w2 ((w2.alloc (.cells #[.string gr.id, .int .i64 gr.cats, .slice X2 gr.fields.length d2, .slice X3 gr.refs.length d3] 35)).alloc (.cells #[.string args[k]] 9)) := ((Below.refl _ _).alloc (Nat.le_refl _) _).alloc (by simp) _
            have HF3 := Aside.mk (s3.below hal)
            have HO3 := Aside.mk ((HO.out.below hb).below hal)
            have HOL := Aside.mk (fun j hj => ((HO.out.below hb).lt j hj).2)
            have HB3 := Aside.mk (below_step (below_step HB2.out hb) hal)
            have HS2 := Aside.mk (Nat.le_trans HB2.out.size hb.size)
            have hl16 : Aside ((([args[k]] : List ByteArray).length + gr.refs.length) * 16 ≤ 140737488355328) := ⟨by simp; omega⟩
            clear hb s2 s3 hal hE hR4
            go_wp2_with (at_builtin
                         refine append_row (w0 := (w2.alloc (.cells #[.string gr.id, .int .i64 gr.cats, .slice X2 gr.fields.length d2, .slice X3 gr.refs.length d3] 35)).alloc (.cells #[.string args[k]] 9)) str w2.heap.size rfl (.tmp 43) (.tmp 45) 33 9 (.string ByteArray.empty) 16 rfl Tryd.underlying33 infoSt rfl Nat.one_pos (Nat.succ_pos _) (.slice (some ⟨w2.heap.size + 1, 0, none⟩) 1 1) [args[k]] gr.refs X3 d3 (fun _ => False) rfl rfl HF3.out (fun p cs h => h) (own_lit2 _ w2 _ _ _ (Nat.le_refl _) _) (Below.refl _ _) (by simp; omega) hl16.out ?_
                         intro v6 w6 HO1 HB1 hg hat
                         obtain ⟨r6, hr6⟩ : ∃ r6, [args[k]] ++ gr.refs = r6 := ⟨_, rfl⟩
                         rw [hr6] at HO1
                         have HR6 := Aside.mk hr6
                         obtain ⟨X6, d6, rfl⟩ := Sl.form HO1.sl
                         have HP6 := Aside.mk HO1
                         have hne : ∀ j, (Value.slice Ao (wAll l ids (args.take k)).length co).ownBlock = some j → some j ≠ (Value.slice (some ⟨w2.heap.size + 1, 0, none⟩) 1 1).ownBlock := fun j hj e => by
                           have := HOL.out j hj
                           have e2 : j = w2.heap.size + 1 := by simpa [Value.ownBlock] using e
                           omega
                         have HO6 := Aside.mk (HO3.out.grown hg hne (fun _ h => h.elim))
                         have HEJ : ∀ j, (Value.slice (some ⟨w2.heap.size + 1, 0, none⟩) 1 1).ownBlock = some j → w1.heap.size ≤ j := fun j hj => by
                           have e2 : w2.heap.size + 1 = j := by simpa [Value.ownBlock] using hj
                           have := HS2.out
                           omega
                         have HB6 := Aside.mk (HB3.out.grown hg HB3.out.size (fun j hj => HEJ j hj))
                         have HN6 : Aside (∀ j, (Value.slice Ao (wAll l ids (args.take k)).length co).ownBlock = some j → some j ≠ (Value.slice X6 r6.length d6).ownBlock) := ⟨fun j hj e => by
                           have h1 := HOL.out j hj
                           have h2 := (HO1.lt j e.symm).1
                           omega⟩
                         clear HO1 HB1 hg hat hne HEJ hr6)
            have h6 : r6.length ≤ 5 := by have := HR4.out; rw [← HR6.out]; simp; omega
            have HH6 := Aside.mk h6
            have HE6 : Aside (wAll l ids (args.take (k + 1)) = wAll l ids (args.take k) ++ wOne ids r6) := ⟨by rw [HE.out, ← HR6.out]; rfl⟩
            clear HO HB2 HO3 HB3 x0 HE HR6
            go_loopw [8, 48] (fun o i wr => ∃ m : Nat, m ≤ r6.length ∧ i = .int .i64 m ∧ Aside (str.Own 9 wr w1.heap.size (fun _ => False) o (wStep l ids args k r6 m)) ∧ Aside (str.Own 9 wr w2.heap.size (fun _ => False) (.slice X6 r6.length d6) r6) ∧
              Aside (∀ j, o.ownBlock = some j → some j ≠ (Value.slice X6 r6.length d6).ownBlock) ∧ Aside (Below w1.heap.size w1 wr)) (fun _ i _ => r6.length - (intOf i).toNat)
            case atStart => exact ⟨0, Nat.zero_le _, rfl, ⟨by rw [wStep_zero]; exact HO6.out⟩, HP6, HN6, HB6⟩
            case round =>
              clear HO6 HP6 HN6 HB6
              obtain ⟨m, hm, rfl, HO, HP, HN, HB4⟩ := hrel
              obtain ⟨Ao, co, rfl⟩ := Sl.form HO.out.sl
              by_cases hmt : m < r6.length
              · have m0 : (0 : Int) ≤ (m : Int) := by omega
                have m1 : (m : Int) < (r6.length : Int) := by omega
                obtain ⟨ad3, rfl, _, x1⟩ := str_at HP.out.row.2.2 hmt
                cases hi2 : decide (r6[m] ∈ ids) with
                | false =>
                  have HE := Aside.mk (wStep_no (l := l) (args := args) (k := k) hmt hi2)
                  go_wp2_with (go_at_call 88; refine (containsS _ _ ids r6[m] _ _ (HI1.out.below HB4.out)).mono ?_; rw [hi2]; rintro e w2 ⟨rfl, rfl⟩)
                  refine ⟨⟨m + 1, by omega, by go_num, ⟨by rw [HE.out]; exact HO.out⟩, HP, HN, HB4⟩, by simp [intOf]; omega⟩
                | true =>
                  have HE := Aside.mk (wStep_yes (l := l) (args := args) (k := k) hmt hi2)
                  have HL4 : Aside (((wStep l ids args k r6 m).length + 1) * 16 ≤ 140737488355328) := ⟨by have := HWL.out; have := wStep_len l ids args k r6 m; omega⟩
                  go_wp2_with (first
                    | (go_at_call 88; refine (containsS _ _ ids r6[m] _ _ (HI1.out.below HB4.out)).mono ?_; rw [hi2]; rintro e w2 ⟨rfl, rfl⟩)
                    | (at_builtin
                       refine list_one (w0 := wr.alloc (.cells #[.string r6[m]] 9)) str w1.heap.size rfl (.tmp 55) (.tmp 57) 33 9 (.string ByteArray.empty) 16 rfl Tryd.underlying33 infoSt rfl Nat.one_pos (Nat.succ_pos _) (.slice Ao (wStep l ids args k r6 m).length co) (wStep l ids args k r6 m) r6[m] [.string r6[m]] (fun _ => False) wr.heap.size 1 rfl rfl (blk_new wr _ _) rfl (HO.out.below ((Below.refl _ _).alloc (Nat.le_refl _) _)) (Below.refl _ _) (Nat.le_trans HB4.out.size (by simp)) HL4.out ?_
                       intro v1 w5 HO1 HB1 hg hat
                       have HO5 := Aside.mk HO1
                       have HP5 := Aside.mk ((HP.out.below ((Below.refl _ _).alloc (Nat.le_refl _) _)).grown hg (fun j hj e => HN.out j e.symm hj.symm) (fun _ h => h.elim))
                       have HN5 : Aside (∀ j, v1.ownBlock = some j → some j ≠ (Value.slice (some ad3) r6.length d6).ownBlock) := ⟨fun j hj e => by
                         rcases hat with h | ⟨b, h, hb⟩
                         · exact HN.out j (by rw [← h]; exact hj) e
                         · have h3 := (HP.out.lt j e.symm).2
                           rw [hj] at h
                           injection h with h
                           simp at hb
                           omega⟩
                       have HB5 := Aside.mk ((HB4.out.alloc HB4.out.size _).grown hg (Nat.le_trans HB4.out.size (by simp)) (fun j hj => (HO.out.lt j hj).1))
                       clear HO1 HB1 hg hat))
                  refine ⟨⟨m + 1, by omega, by go_num, ⟨by rw [HE.out]; exact HO5.out⟩, HP5, HN5, HB5⟩, by simp [intOf]; omega⟩
              · obtain rfl : m = r6.length := by omega
                have HX : Aside (wAll l ids (args.take (k + 1)) = wStep l ids args k r6 r6.length) := ⟨by rw [HE6.out, wStep, List.take_length]⟩
                go_wp2_with fail
                refine ⟨⟨k + 1, by omega, by go_num, ⟨by rw [HX.out]; exact HO.out⟩, HB4⟩, by simp [intOf]; omega⟩
        · obtain rfl : k = args.length := by omega
          have h := HO.out
          have hw := HW.out args
          rw [List.take_length] at h
          have HE := Aside.mk h
          have HLW : Aside ((wAll l ids args).length < 4611686018427387904) := ⟨by omega⟩
          clear h hw
          have HXX : Aside (List.take args.length args = args) := ⟨List.take_length⟩
          rw [HXX.out]
          go_wp2_with fail
          refine (sortStr _ _ _ _ _ _ HE.out HLW.out).mono ?_
          rintro e w3 ⟨rfl, ho, hg⟩
          have HB3 := Aside.mk (HB2.out.grown hg HB2.out.size (fun j hj => (HE.out.lt j hj).1))
          have HO3 := Aside.mk ho
          have HLS : Aside ((sortS (wAll l ids args)).length ≤ 9223372036854775807) := ⟨by rw [length_sortS]; have := HLW.out; omega⟩
          clear hg ho
          go_wp2_with fail
          refine (compStr _ _ _ _ _ _ HO3.out HLS.out).mono ?_
          rintro e w4 ⟨v7, rfl, ho, hg, _⟩
          have HB4 := Aside.mk (HB3.out.grown hg HB3.out.size (fun j hj => (HO3.out.lt j hj).1))
          have HO4 := Aside.mk ho
          clear hg ho
          go_wp2_with fail
          go_ret2
          exact ⟨v7, rfl, by rw [HIDS.out]; exact HO4.out.sl.mono fun j hj _ => hj.elim False.elim fun hj => Nat.le_trans HB1.out.size (HO4.out.lt j hj).1, below_step HB1.out HB4.out⟩
  · have e1 : withErr l args = storeErr l := if_pos h1
    have e2 : withV l args = [] := by rw [withV, e1, if_neg h1]
    have g3 : (storeErr l != 0) = true := by simp [h1]
    rw [e1, e2]
    clear e1 e2 h1
    go_enter Tryd.func43, Tryd.ntmps43
    go_wp2_with fail
    refine (storeIds _ c l _ _ HR.out hc).mono ?_
    rintro e w1 ⟨v1, rfl, s1, hb⟩
    obtain ⟨X1, d1, rfl⟩ := Sl.form s1
    have HB1 := Aside.mk hb
    clear hb s1
    go_wp2_with fail
    go_ret2
    exact ⟨_, rfl, Sl.nil _ _ _, HB1.out⟩
end Go.Proofs.WK
