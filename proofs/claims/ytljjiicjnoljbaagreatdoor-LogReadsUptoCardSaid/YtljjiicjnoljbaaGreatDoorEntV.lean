/-
  wyref.Entry (P47): what a log's first line says, as the document reads it.
-/
import Derived.Test.YtljjiicjnoljbaaGreatDoorEntW
import Derived.Test.YtljjiicjnoljbaaGreatDoorLogR
namespace Go.Proofs.WK
open Go.RowKit Rp
theorem sp_lit : spEq.toList = [32, 61] := by simp [spEq]
theorem w_speq (h : ByteArray) : (h.toList == [32, 61]) = decide (h = spEq) := by rw [← sp_lit]; exact toList_beq _ _
/-- A loop's end. -/
theorem lastK_all (t : ByteArray) {k : Nat} (h : ¬ ((k : Int) < (t.size : Int) - 1)) (hk : k ≤ t.size - 1) : lastEq t = lastK t k := by
  rw [lastEq_eq, show t.size - 1 = k by omega]
set_option maxRecDepth 100000 in
set_option maxHeartbeats 4000000 in
theorem refEntry (s : ByteArray) (w : World) (hs : s.size < 4294967281) (hm : MaxCell w) : Calls Tryz.prog 42 #[.string s] w (ReadD s w) := by
  have hal : Below w.heap.size w (w.alloc (.cells opZ.toArray 40)) := (Below.refl _ _).alloc (Nat.le_refl _) _
  have HR := Aside.mk (Bk.made w opZ 40)
  have HB := Aside.mk hal
  have HZ := Aside.mk hs
  have HM := Aside.mk hm
  clear hal hs hm
  go_enter Tryz.func42, Tryz.ntmps42
  go_upto_region 1 with fail
  generalize hW0 : w.alloc _ = W0 at HR HB ⊢
  clear hW0
  have HC := Aside.mk (cutC s 10 W0 HZ.out (HM.out.below HB.out))
  rcases Lib.indexB_cases s (one 10) with hi | ⟨i, hi, hil⟩
  · have HH := Aside.mk (ent_short hi)
    have e3 : cut3 10 s = false := by unfold cut3; rw [hi]; rfl
    rw [e3] at HC
    clear hi e3
    go_wp2_with fail
    refine HC.out.mono ?_
    rintro e w1 ⟨rfl, hd⟩
    have HB1 := Aside.mk (below_step HB.out hd.below)
    have p1 := (HR.out.below hd.below).twelve
    clear hd
    go_wp2_with fail
    refine bodyPost_ret (v := .tuple #[.agg #[.int .i64 0, .int .i64 0, .int .i64 0, .int .i64 0, .slice none 0 0, .string ⟨#[]⟩, .int .i64 0, .slice none 0 0, .slice none 0 0, .string ⟨#[]⟩, .string ⟨#[]⟩, .string ⟨#[]⟩], .int .i64 0, .int .i64 7]) ?_ rfl (ReadD.bad HH.out (by decide) ?_)
    · simp [results, Tryz.results42, go_sem, p1]
    · exact below_twelve HB1.out (Nat.le_refl _) _ _ _ _ _ _ _ _ _ _ _ _
  · have HA := Aside.mk (ent_at hi)
    have hil' : i + 1 ≤ s.size := hil
    have HTS := Aside.mk (ext_size (s := s) (i := i) (by omega))
    have e1 : cut1 10 s = s.extract 0 i := by unfold cut1; rw [hi, if_neg (by omega), Int.toNat_natCast]
    have e3 : cut3 10 s = true := by unfold cut3; rw [hi]; simp
    rw [e1, e3] at HC
    have HHI := Aside.mk hi
    have HIL := Aside.mk hil'
    clear hi hil hil' e1 e3
    go_wp2_with fail
    refine HC.out.mono ?_
    rintro e w1 ⟨rfl, hd⟩
    have HB1 := Aside.mk (below_step HB.out hd.below)
    have HR1 := Aside.mk (HR.out.below hd.below)
    clear hd HC HB HR
    obtain ⟨t, ht⟩ : ∃ t, t = s.extract 0 i := ⟨_, rfl⟩
    rw [← ht] at HTS HA ⊢
    have HTE := Aside.mk ht
    have HTZ : Aside (t.size < 4294967281) := ⟨by have := HTS.out; have := HIL.out; have := HZ.out; omega⟩
    clear ht
    have hw : IntKind.i64.wrap ((t.size : Int) - 1) = (t.size : Int) - 1 := by rw [IntKind.wrap_i64]; have := HTZ.out; omega
    go_wp2_with fail
    go_loopw [8, 25] (fun a c wr => ∃ k : Nat, k ≤ t.size - 1 ∧ a = .int .i64 (lastK t k) ∧ c = .int .i64 k ∧ wr = w1) (fun _ c _ => t.size - (intOf c).toNat)
    case atStart => exact ⟨0, Nat.zero_le _, rfl, rfl, rfl⟩
    case round =>
      obtain ⟨k, hk, rfl, rfl, rfl⟩ := hrel
      by_cases hlt : (k : Int) < (t.size : Int) - 1
      · have k0 : (0 : Int) ≤ (k : Int) := by omega
        have k2 : IntKind.i64.wrap ((k : Int) + 2) = (k : Int) + 2 := by rw [IntKind.wrap_i64]; have := HTZ.out; omega
        have k3 : (k : Int) + 2 ≤ (t.size : Int) := by omega
        have k4 : (k : Int) ≤ (k : Int) + 2 := by omega
        have k5 : ((k : Int) + 2).toNat = k + 2 := by omega
        have k6 : (0 : Int) ≤ (k : Int) + 2 := by omega
        have k7 : IntKind.i64.wrap ((k : Int) + 1) = (k : Int) + 1 := by rw [IntKind.wrap_i64]; have := HTZ.out; omega
        have HS := Aside.mk (lastK_step (s := t) (k := k) (by omega))
        have g0 := w_speq (t.extract k (k + 2))
        by_cases hy : t.extract k (k + 2) = spEq
        · rw [decide_eq_true hy] at g0
          have HS2 := Aside.mk (show lastK t (k + 1) = (k : Int) from HS.out.trans (if_pos hy))
          clear hy HS
          go_wp2_with fail
          exact ⟨⟨k + 1, by omega, by rw [HS2.out], by go_num, trivial⟩, by simp [intOf]; omega⟩
        · rw [decide_eq_false hy] at g0
          have HS2 := Aside.mk (show lastK t (k + 1) = lastK t k from HS.out.trans (if_neg hy))
          clear hy HS
          go_wp2_with fail
          exact ⟨⟨k + 1, by omega, by rw [HS2.out], by go_num, trivial⟩, by simp [intOf]; omega⟩
      · have hlk := lastK_all t hlt hk
        rw [← hlk]
        have HLK := Aside.mk hlk
        clear hlk hk
        go_upto_region 11 with fail
        clear hw hlt
        by_cases hk : lastEq t < 0
        · have HH : Aside (entE s = 10 ∧ entO s = opNo) := ⟨by rw [HA.out.1, HA.out.2, body_no hk]; exact ⟨rfl, rfl⟩⟩
          have g1 : decide (lastEq t < 0) = true := decide_eq_true hk
          have p1 := HR1.out.twelve
          clear hk
          go_wp2_with fail
          refine bodyPost_ret (v := .tuple #[.agg #[.int .i64 0, .int .i64 0, .int .i64 0, .int .i64 0, .slice none 0 0, .string ⟨#[]⟩, .int .i64 0, .slice none 0 0, .slice none 0 0, .string ⟨#[]⟩, .string ⟨#[]⟩, .string ⟨#[]⟩], .int .i64 0, .int .i64 10]) ?_ rfl (ReadD.bad HH.out (by decide) ?_)
          · simp [results, Tryz.results42, go_sem, p1]
          · exact below_twelve HB1.out (Nat.le_refl _) _ _ _ _ _ _ _ _ _ _ _ _
        · obtain ⟨j, hkk⟩ : ∃ j : Nat, lastEq t = j := ⟨(lastEq t).toNat, by omega⟩
          have h2 := lastEq_two (s := t) (by omega)
          rw [hkk, Int.toNat_natCast] at h2
          have HKK := Aside.mk hkk
          rw [hkk]
          have k0 : (0 : Int) ≤ (j : Int) := by omega
          have k1 : (j : Int) ≤ (t.size : Int) := by omega
          have kneg : decide ((j : Int) < 0) = false := decide_eq_false (by omega)
          have k2 : IntKind.i64.wrap ((j : Int) + 2) = (j : Int) + 2 := by rw [IntKind.wrap_i64]; have := HTZ.out; omega
          have k3 : (j : Int) + 2 ≤ (t.size : Int) := by omega
          have k4 : (0 : Int) ≤ (j : Int) + 2 := by omega
          have k5 : ((j : Int) + 2).toNat = j + 2 := by omega
          clear hkk hk HLK
          have HNU := Aside.mk (refNum (t.extract (j + 2) t.size) wr (Nat.lt_of_le_of_lt (extract_le _ _ _) HTZ.out))
          have HBE := Aside.mk (show (numV (t.extract (j + 2) t.size) = none ∨ ∃ n, numV (t.extract (j + 2) t.size) = some n ∧ ¬ (0 ≤ n ∧ n ≤ 65520)) → entE s = 10 ∧ entO s = opNo from fun h => by
            rw [HA.out.1, HA.out.2, body_bad HKK.out h]
            exact ⟨rfl, rfl⟩)
          have HBS := Aside.mk (fun (n : Int) (h1 : numV (t.extract (j + 2) t.size) = some n) (h2 : 0 ≤ n ∧ n ≤ 65520) => body_sum HKK.out h1 h2)
          go_wp2_with fail
          refine HNU.out.mono ?_
          rintro e w2 ⟨v, rfl, hv, hb⟩
          have HB2 := Aside.mk (below_step HB1.out hb)
          have HR2 := Aside.mk (HR1.out.below hb)
          have p2 := HR2.out.twelve
          clear hb HNU HB1 HR1
          generalize numV (t.extract (j + 2) t.size) = N at hv HBE HBS ⊢
          cases N with
          | none =>
            have HH := Aside.mk (HBE.out (.inl rfl))
            rw [show (none : Option Int).isSome = false from rfl]
            clear hv
            go_wp2_with fail
            refine bodyPost_ret (v := .tuple #[.agg #[.int .i64 0, .int .i64 0, .int .i64 0, .int .i64 0, .slice none 0 0, .string ⟨#[]⟩, .int .i64 0, .slice none 0 0, .slice none 0 0, .string ⟨#[]⟩, .string ⟨#[]⟩, .string ⟨#[]⟩], .int .i64 0, .int .i64 10]) ?_ rfl (ReadD.bad HH.out (by decide) ?_)
            · simp [results, Tryz.results42, go_sem, p2]
            · exact below_twelve HB2.out (Nat.le_refl _) _ _ _ _ _ _ _ _ _ _ _ _
          | some n =>
            obtain rfl := hv n rfl
            rw [show (some v : Option Int).isSome = true from rfl]
            clear hv
            have HW := Aside.mk (within v 0 65520 w2)
            by_cases hr : 0 ≤ v ∧ v ≤ 65520
            · have HS := Aside.mk (HBS.out v rfl hr)
              rw [decide_eq_true hr] at HW
              have HVR := Aside.mk hr
              clear hr HBS HBE
              go_wp2_with fail
              refine HW.out.mono ?_
              rintro e w3 ⟨rfl, rfl⟩
              have HKZ : Aside ((t.extract 0 j).size < 4294967281) := ⟨Nat.lt_of_le_of_lt (extract_le t 0 j) HTZ.out⟩
              clear HW
              go_wp2_with fail
              refine (refSum (t.extract 0 j) w2 HKZ.out).mono ?_
              rintro e w3 ⟨rfl, rfl⟩
              by_cases hsum : sumV (t.extract 0 j) = v
              · have g5 : (sumV (t.extract 0 j) == v) = true := beq_iff_eq.2 hsum
                have g6 : (sumV (t.extract 0 j) != v) = false := by rw [bne, g5]; rfl
                have HS2 := Aside.mk (HS.out.trans (if_neg (by simpa using hsum)))
                have HSP := Aside.mk (splitC (t.extract 0 j) 32 w2 HKZ.out (HM.out.below HB2.out))
                have HPL := Aside.mk (parts_len 32 (t.extract 0 j))
                have HPC := Aside.mk (Lib.countB_le (one 32) (by rw [one_size]; exact Nat.le_refl _) _ (t.extract 0 j) (Nat.le_refl _))
                have HPZ := Aside.mk (fun x hx => Nat.lt_of_le_of_lt (parts_size 32 _ (t.extract 0 j) rfl x hx) HKZ.out)
                clear hsum HS
                go_wp2_with fail
                refine HSP.out.mono ?_
                rintro e w4 ⟨rfl, hrow, hb⟩
                have HB4 := Aside.mk (below_step HB2.out hb)
                have HR4 := Aside.mk (HR2.out.below hb)
                clear hb HSP p2 HB2 HR2
                have HSA := Aside.mk (refSaid (some ⟨w2.heap.size, 0, none⟩) (parts 32 (t.extract 0 j)).length _ (parts 32 (t.extract 0 j)) (fun e => by have := HPL.out; rw [e] at this; simp at this) _ w4 hrow (Nat.le_refl _) rfl HPZ.out (by have := HPL.out; have := HPC.out; have := HKZ.out; omega) (HM.out.below HB4.out))
                have p4 := HR4.out.twelve
                clear hrow HPL HPC HPZ
                go_wp2_with fail
                refine HSA.out.mono ?_
                rintro e w5 ⟨o, v1, v2, v3, he, hso, ⟨X1, d1, rfl, hd1, r1⟩, ⟨X2, d2, rfl, hd2, r2⟩, ⟨X3, d3, rfl, hd3, r3⟩, hb⟩
                obtain rfl : e = .returned (.tuple #[.agg #[.int .i64 o.kind, .int .i64 o.who.role, .int .i64 o.who.why, .int .i64 o.who.time, .slice X1 o.rules.length d1, .string o.r.id, .int .i64 o.r.cats, .slice X2 o.r.fields.length d2, .slice X3 o.r.refs.length d3, .string o.id, .string o.f.key, .string o.f.val], .bool (saidX (parts 32 (t.extract 0 j))).isSome]) := he
                have hal : Below w5.heap.size w5 (w5.alloc (.cells #[.int .i64 o.kind, .int .i64 o.who.role, .int .i64 o.who.why, .int .i64 o.who.time, .slice X1 o.rules.length d1, .string o.r.id, .int .i64 o.r.cats, .slice X2 o.r.fields.length d2, .slice X3 o.r.refs.length d3, .string o.id, .string o.f.key, .string o.f.val] 40)) := (Below.refl _ _).alloc (Nat.le_refl _) _
                have HB6 := Aside.mk (below_step (below_step HB4.out hb) hal)
                have HR6 := Aside.mk ((HR4.out.below hb).below hal)
                have HQ6 := Aside.mk (Bk.made w5 [.int .i64 o.kind, .int .i64 o.who.role, .int .i64 o.who.why, .int .i64 o.who.time, .slice X1 o.rules.length d1, .string o.r.id, .int .i64 o.r.cats, .slice X2 o.r.fields.length d2, .slice X3 o.r.refs.length d3, .string o.id, .string o.f.key, .string o.f.val] 40)
                have hsz : w.heap.size < w4.heap.size := HR4.out.lt
                have HRW := Aside.mk (show (rulR.Row _ (fun k => w4.heap.size ≤ k) X1 o.rules ∧ fldR.Row _ (fun k => w4.heap.size ≤ k) X2 o.r.fields ∧ str.Row _ (fun k => w4.heap.size ≤ k) X3 o.r.refs) ∧ o.rules.length ≤ d1 ∧ o.r.fields.length ≤ d2 ∧ o.r.refs.length ≤ d3 ∧ w.heap.size < w4.heap.size from ⟨⟨r1.below hal, r2.below hal, r3.below hal⟩, hd1, hd2, hd3, hsz⟩)
                have HSO := Aside.mk hso
                have HQN := Aside.mk (show w.heap.size < w5.heap.size from Nat.lt_of_lt_of_le hsz hb.size)
                clear HSA hso r1 r2 r3 hd1 hd2 hd3 hb hal hsz HB4 HR4 p4
                cases hsd : saidX (parts 32 (t.extract 0 j)) with
                | none =>
                  have HH : Aside (entE s = 10 ∧ entO s = opNo) := ⟨by rw [HA.out.1, HA.out.2, HS2.out, hsd]; exact ⟨rfl, rfl⟩⟩
                  have p6 := HR6.out.twelve
                  rw [show (none : Option OpV).isSome = false from rfl]
                  clear hsd
                  go_wp2_with fail
                  refine bodyPost_ret (v := .tuple #[.agg #[.int .i64 0, .int .i64 0, .int .i64 0, .int .i64 0, .slice none 0 0, .string ⟨#[]⟩, .int .i64 0, .slice none 0 0, .slice none 0 0, .string ⟨#[]⟩, .string ⟨#[]⟩, .string ⟨#[]⟩], .int .i64 0, .int .i64 10]) ?_ rfl (ReadD.bad HH.out (by decide) ?_)
                  · simp [results, Tryz.results42, go_sem, p6]
                  · exact below_twelve (HB6.out) (Nat.le_refl _) _ _ _ _ _ _ _ _ _ _ _ _
                | some x =>
                  obtain rfl := HSO.out x hsd
                  have HS3 := Aside.mk (show bodyE (t) = if logErr o ≠ 0 then (opNo, logErr o) else (o, 0) by rw [HS2.out, hsd])
                  have HC := Aside.mk (refLogged o X1 X2 X3 d1 d2 d3 _ _ _ _ HRW.out.1.1 HRW.out.1.2.1 HRW.out.1.2.2 (said_wf hsd))
                  rw [show (some o : Option OpV).isSome = true from rfl]
                  clear hsd HSO HS2
                  go_upto_region 19 with fail
                  generalize hq : w5.heap.size = q at HQ6 HQN ⊢
                  generalize w5.alloc _ = w6 at HB6 HR6 HQ6 HRW HC ⊢
                  clear hq
                  have q6 := HQ6.out.twelve
                  unfold opVal at HC
                  go_wp2_with fail
                  refine HC.out.mono ?_
                  rintro e w7 ⟨rfl, hb⟩
                  have HB7 := Aside.mk (below_step HB6.out hb)
                  have p7 := (HR6.out.below hb).twelve
                  have q7 := (HQ6.out.below hb).twelve
                  have HRW7 := Aside.mk (And.intro (HRW.out.1.1.below hb) (And.intro (HRW.out.1.2.1.below hb) (HRW.out.1.2.2.below hb)))
                  have hqn : q ≠ w.heap.size := by have := HQN.out; omega
                  clear q6 hb HB6 HR6 HQ6 HC
                  by_cases h0 : logErr o = 0
                  · have HO : Aside (entE s = 0 ∧ entO s = o ∧ entN s = (t.size : Int) + 1) := ⟨by
                      have h1 : entE s = 0 := by rw [HA.out.1, HS3.out, if_neg (by simpa using h0)]
                      refine ⟨h1, by rw [HA.out.2, HS3.out, if_neg (by simpa using h0)], ?_⟩
                      unfold entN
                      rw [if_pos h1, HHI.out, HTS.out]⟩
                    have i2 : IntKind.i64.wrap ((t.size : Int) + 1) = (t.size : Int) + 1 := by rw [IntKind.wrap_i64]; have := HTZ.out; omega
                    rw [h0]
                    clear h0
                    go_wp2_with fail
                    refine bodyPost_ret (v := .tuple #[.agg #[.int .i64 o.kind, .int .i64 o.who.role, .int .i64 o.who.why, .int .i64 o.who.time, .slice X1 o.rules.length d1, .string o.r.id, .int .i64 o.r.cats, .slice X2 o.r.fields.length d2, .slice X3 o.r.refs.length d3, .string o.id, .string o.f.key, .string o.f.val], .int .i64 ((t.size : Int) + 1), .int .i64 0]) ?_ rfl ?_
                    · simp [results, Tryz.results42, go_sem, p7]
                    · unfold ReadD
                      rw [HO.out.1, HO.out.2.1, HO.out.2.2]
                      refine ⟨_, _, _, rfl, ⟨⟨_, _, rfl, HRW.out.2.1, ?_⟩, ⟨_, _, rfl, HRW.out.2.2.1, ?_⟩, ⟨_, _, rfl, HRW.out.2.2.2.1, ?_⟩⟩, below_twelve HB7.out (Nat.le_refl _) _ _ _ _ _ _ _ _ _ _ _ _⟩
                      · exact (HRW7.out.1.move fun k hk _ => set_twelve (by have := HRW.out.2.2.2.2; omega)).mono fun k hk _ => by have := HRW.out.2.2.2.2; omega
                      · exact (HRW7.out.2.1.move fun k hk _ => set_twelve (by have := HRW.out.2.2.2.2; omega)).mono fun k hk _ => by have := HRW.out.2.2.2.2; omega
                      · exact (HRW7.out.2.2.move fun k hk _ => set_twelve (by have := HRW.out.2.2.2.2; omega)).mono fun k hk _ => by have := HRW.out.2.2.2.2; omega
                  · have HH : Aside (entE s = logErr o ∧ entO s = opNo) := ⟨by rw [HA.out.1, HA.out.2, HS3.out, if_pos h0]; exact ⟨rfl, rfl⟩⟩
                    have g7 : (logErr o != 0) = true := by simp [h0]
                    have H0 := Aside.mk h0
                    clear h0
                    go_wp2_with fail
                    refine bodyPost_ret (v := .tuple #[.agg #[.int .i64 0, .int .i64 0, .int .i64 0, .int .i64 0, .slice none 0 0, .string ⟨#[]⟩, .int .i64 0, .slice none 0 0, .slice none 0 0, .string ⟨#[]⟩, .string ⟨#[]⟩, .string ⟨#[]⟩], .int .i64 0, .int .i64 (logErr o)]) ?_ rfl (ReadD.bad HH.out H0.out ?_)
                    · simp [results, Tryz.results42, go_sem, p7]
                    · exact below_twelve (HB7.out) (Nat.le_refl _) _ _ _ _ _ _ _ _ _ _ _ _
              · have HH : Aside (entE s = 8 ∧ entO s = opNo) := ⟨by rw [HA.out.1, HA.out.2, HS.out, if_pos hsum]; exact ⟨rfl, rfl⟩⟩
                have g5 : (sumV (t.extract 0 j) == v) = false := beq_eq_false_iff_ne.2 hsum
                have g6 : (sumV (t.extract 0 j) != v) = true := by rw [bne, g5]; rfl
                clear hsum HS
                go_wp2_with fail
                refine bodyPost_ret (v := .tuple #[.agg #[.int .i64 0, .int .i64 0, .int .i64 0, .int .i64 0, .slice none 0 0, .string ⟨#[]⟩, .int .i64 0, .slice none 0 0, .slice none 0 0, .string ⟨#[]⟩, .string ⟨#[]⟩, .string ⟨#[]⟩], .int .i64 0, .int .i64 8]) ?_ rfl (ReadD.bad HH.out (by decide) ?_)
                · simp [results, Tryz.results42, go_sem, p2]
                · exact below_twelve HB2.out (Nat.le_refl _) _ _ _ _ _ _ _ _ _ _ _ _
            · have HH := Aside.mk (HBE.out (.inr ⟨v, rfl, hr⟩))
              rw [decide_eq_false hr] at HW
              clear hr HBS HBE
              go_wp2_with fail
              refine HW.out.mono ?_
              rintro e w3 ⟨rfl, rfl⟩
              go_wp2_with fail
              refine bodyPost_ret (v := .tuple #[.agg #[.int .i64 0, .int .i64 0, .int .i64 0, .int .i64 0, .slice none 0 0, .string ⟨#[]⟩, .int .i64 0, .slice none 0 0, .slice none 0 0, .string ⟨#[]⟩, .string ⟨#[]⟩, .string ⟨#[]⟩], .int .i64 0, .int .i64 10]) ?_ rfl (ReadD.bad HH.out (by decide) ?_)
              · simp [results, Tryz.results42, go_sem, p2]
              · exact below_twelve HB2.out (Nat.le_refl _) _ _ _ _ _ _ _ _ _ _ _ _
end Go.Proofs.WK
