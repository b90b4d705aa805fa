/-
  log.Read (P47).
  log.All (P48).
-/
import Derived.Test.YtljjiicjnoljbaaGreatDoorParse
import Derived.Test.YtljjiicjnoljbaaGreatDoorLogW0
import Derived.Test.YtljjiicjnoljbaaGreatDoorTornP
import Derived.Test.YtljjiicjnoljbaaGreatDoorShLast
namespace Go.Proofs.WK
open Go.RowKit Rp
/-- An operation's lists, as they lie. -/
def OpIn (W : World) (ok : Nat → Prop) (o : OpV) (v1 v2 v3 : Value) : Prop := rulR.Sl W ok v1 o.rules ∧ fldR.Sl W ok v2 o.r.fields ∧ str.Sl W ok v3 o.r.refs
theorem OpIn.no (W : World) (ok : Nat → Prop) : OpIn W ok opNo (.slice none 0 0) (.slice none 0 0) (.slice none 0 0) := ⟨Sl.nil _ _ _, Sl.nil _ _ _, Sl.nil _ _ _⟩
theorem OpIn.below {W W' : World} {ok : Nat → Prop} {o : OpV} {v1 v2 v3 : Value} (h : OpIn W ok o v1 v2 v3) (hb : Below W.heap.size W W') : OpIn W' ok o v1 v2 v3 := ⟨h.1.below hb, h.2.1.below hb, h.2.2.below hb⟩
theorem OpIn.mono {W : World} {ok ok' : Nat → Prop} {o : OpV} {v1 v2 v3 : Value} (h : OpIn W ok o v1 v2 v3) (hk : ∀ k, ok k → k < W.heap.size → ok' k) : OpIn W ok' o v1 v2 v3 := ⟨h.1.mono hk, h.2.1.mono hk, h.2.2.mono hk⟩
def ReadD (s : ByteArray) (w : World) (e : Ending) (w' : World) : Prop :=
  ∃ v1 v2 v3, e = .returned (.tuple #[.agg (opL (entO s) v1 v2 v3).toArray, .int .i64 (entN s), .int .i64 (entE s)]) ∧ OpIn w' (fun k => w.heap.size ≤ k) (entO s) v1 v2 v3 ∧ Below w.heap.size w w'
theorem ReadD.bad {s : ByteArray} {w w' : World} {E : Int} (h : entE s = E ∧ entO s = opNo) (hE : E ≠ 0) (hb : Below w.heap.size w w') : ReadD s w (.returned (.tuple #[.agg #[.int .i64 0, .int .i64 0, .int .i64 0, .int .i64 0, .slice none 0 0, .string ⟨#[]⟩, .int .i64 0, .slice none 0 0, .slice none 0 0, .string ⟨#[]⟩, .string ⟨#[]⟩, .string ⟨#[]⟩], .int .i64 0, .int .i64 E])) w' := by
  have hn : entN s = 0 := if_neg (by rw [h.1]; exact hE)
  unfold ReadD
  rw [h.1, h.2, hn]
  exact ⟨_, _, _, rfl, OpIn.no _ _, hb⟩
theorem ent_short {s : ByteArray} (h : Lib.indexB s (one 10) = -1) : entE s = 7 ∧ entO s = opNo := ⟨if_pos h, if_pos h⟩
theorem ent_at {s : ByteArray} {i : Nat} (h : Lib.indexB s (one 10) = i) : entE s = (bodyE (s.extract 0 i)).2 ∧ entO s = (bodyE (s.extract 0 i)).1 := by
  unfold entE entO
  rw [h, if_neg (by omega), if_neg (by omega), Int.toNat_natCast]
  exact ⟨rfl, rfl⟩
theorem ext_ext {s : ByteArray} {i a b : Nat} (hb : b ≤ i) : (s.extract 0 i).extract a b = s.extract a b := by
  rw [← data_bs ((s.extract 0 i).extract a b), ← data_bs (s.extract a b), extract_data, extract_data, extract_data]
  congr 1
  rw [List.drop_zero, Nat.sub_zero, List.drop_take, List.take_take, Nat.min_eq_left (by omega)]
theorem ext_size {s : ByteArray} {i : Nat} (hi : i ≤ s.size) : (s.extract 0 i).size = i := by rw [ByteArray.size_extract]; omega
/-- What a line's body says, by its sum's text and what stands ahead. -/
theorem body_no {t : ByteArray} (h : lastEq t < 0) : bodyE t = (opNo, 10) := by unfold bodyE; rw [if_pos h]
theorem body_bad {t : ByteArray} {k : Nat} (h : lastEq t = k) (h1 : numV (t.extract (k + 2) t.size) = none ∨ ∃ n, numV (t.extract (k + 2) t.size) = some n ∧ ¬ (0 ≤ n ∧ n ≤ 65520)) : bodyE t = (opNo, 10) := by
  unfold bodyE
  rw [h, if_neg (by omega), Int.toNat_natCast]
  rcases h1 with h1 | ⟨n, h1, h2⟩
  · rw [h1]
  · rw [h1]
    exact if_pos h2
theorem body_sum {t : ByteArray} {k : Nat} {n : Int} (h : lastEq t = k) (h1 : numV (t.extract (k + 2) t.size) = some n) (h2 : 0 ≤ n ∧ n ≤ 65520) : bodyE t = if sumV (t.extract 0 k) ≠ n then (opNo, 8) else match saidX (parts 32 (t.extract 0 k)) with
    | none => (opNo, 10)
    | some o => if logErr o ≠ 0 then (opNo, logErr o) else (o, 0) := by
  unfold bodyE
  rw [h, if_neg (by omega), Int.toNat_natCast, h1]
  exact if_neg (by simpa using h2)
theorem readR_wf (d : ByteArray) : RecWf (readR d) := by
  unfold readR
  split
  · rename_i r _
    split
    · rename_i h0
      intro f hf
      have := flds_each (rec_ok h0).2.2.2.2.2.1 f hf
      unfold fldOk valOk at this
      simp only [Bool.and_eq_true, decide_eq_true_eq] at this
      omega
    · intro f hf; cases hf
  · intro f hf; cases hf
theorem said_wf {l : List ByteArray} {o : OpV} (h : saidX l = some o) : RecWf o.r := by
  cases l with
  | nil => cases h
  | cons a t =>
    by_cases h1 : a = sRules
    · subst h1
      rw [saidX_rules] at h
      obtain ⟨rs, _, rfl⟩ := Option.map_eq_some_iff.1 h
      intro f hf; cases hf
    · by_cases h2 : a = sPut
      · subst h2
        rw [saidX_put] at h
        unfold putX at h
        split at h
        · split at h
          · split at h
            · injection h with h
              rw [← h]
              exact readR_wf _
            · cases h
          · cases h
        · cases h
      · by_cases h3 : a = sCut
        · subst h3
          rw [saidX_cut] at h
          unfold cutX at h
          split at h
          · split at h
            · injection h with h
              rw [← h]
              intro f hf; cases hf
            · cases h
          · cases h
        · rw [said_else h1 h2 h3] at h
          cases h
theorem lastC (s : ByteArray) (w : World) (hs : s.size < 4294967281) : Calls Tryz.prog 109 #[.string s, .string ⟨#[32, 61]⟩] w fun e w' => e = .returned (.int .i64 (lastEq s)) ∧ w = w' :=
  (show Calls Tryz.prog 109 #[.string s, .string ⟨#[32, 61]⟩] w _ from Any.strings_LastIndex Tryz.layLast s ⟨#[32, 61]⟩ (by omega) w).mono fun e w' ⟨h1, h2⟩ => ⟨h1, h2.symm⟩
set_option maxRecDepth 100000 in
set_option maxHeartbeats 4000000 in
theorem logRead (s : ByteArray) (w : World) (hs : s.size < 4294967281) (he : EnvC w) : Calls Tryz.prog 40 #[.string s] w (ReadD s w) := by
  have hal : Below w.heap.size w (w.alloc (.cells opZ.toArray 40)) := (Below.refl _ _).alloc (Nat.le_refl _) _
  have HE := Aside.mk he
  have HR := Aside.mk (Bk.made w opZ 40)
  have HB := Aside.mk hal
  have HZ := Aside.mk hs
  clear he hal hs
  go_enter Tryz.func40, Tryz.ntmps40
  go_upto_region 1 with fail
  generalize hW0 : w.alloc _ = W0 at HR HB ⊢
  clear hW0
  have p0 := HR.out.twelve
  have HI := Aside.mk (ixbC s 10 W0)
  rcases Lib.indexB_cases s (one 10) with hi | ⟨i, hi, hil⟩
  · have HH := Aside.mk (ent_short hi)
    rw [hi] at HI
    clear hi
    go_wp2_with fail
    refine HI.out.mono ?_
    rintro e w1 ⟨rfl, rfl⟩
    go_wp2_with fail
    refine bodyPost_ret (v := .tuple #[.agg #[.int .i64 0, .int .i64 0, .int .i64 0, .int .i64 0, .slice none 0 0, .string ⟨#[]⟩, .int .i64 0, .slice none 0 0, .slice none 0 0, .string ⟨#[]⟩, .string ⟨#[]⟩, .string ⟨#[]⟩], .int .i64 0, .int .i64 7]) ?_ rfl (ReadD.bad HH.out (by decide) ?_)
    · simp [results, Tryz.results40, go_sem, p0]
    · exact below_twelve HB.out (Nat.le_refl _) _ _ _ _ _ _ _ _ _ _ _ _
  · have HA := Aside.mk (ent_at hi)
    rw [hi] at HI
    have hil' : i + 1 ≤ s.size := hil
    have HTS := Aside.mk (ext_size (s := s) (i := i) (by omega))
    have i0 : (0 : Int) ≤ (i : Int) := by omega
    have i1 : (i : Int) ≤ (s.size : Int) := by omega
    have ineg : decide ((i : Int) < 0) = false := decide_eq_false (by omega)
    have HHI := Aside.mk hi
    have HIL := Aside.mk hil'
    clear hi hil
    have HLA := Aside.mk (lastC (s.extract 0 i) W0 (by have := HZ.out; rw [HTS.out]; omega))
    go_wp2_with fail
    refine HI.out.mono ?_
    rintro e w1 ⟨rfl, rfl⟩
    go_wp2_with fail
    refine HLA.out.mono ?_
    rintro e w1 ⟨rfl, rfl⟩
    clear HI HLA
    by_cases hk : lastEq (s.extract 0 i) < 0
    · have HH : Aside (entE s = 10 ∧ entO s = opNo) := ⟨by rw [HA.out.1, HA.out.2, body_no hk]; exact ⟨rfl, rfl⟩⟩
      have g1 : decide (lastEq (s.extract 0 i) < 0) = true := decide_eq_true hk
      clear hk
      go_wp2_with fail
      refine bodyPost_ret (v := .tuple #[.agg #[.int .i64 0, .int .i64 0, .int .i64 0, .int .i64 0, .slice none 0 0, .string ⟨#[]⟩, .int .i64 0, .slice none 0 0, .slice none 0 0, .string ⟨#[]⟩, .string ⟨#[]⟩, .string ⟨#[]⟩], .int .i64 0, .int .i64 10]) ?_ rfl (ReadD.bad HH.out (by decide) ?_)
      · simp [results, Tryz.results40, go_sem, p0]
      · exact below_twelve HB.out (Nat.le_refl _) _ _ _ _ _ _ _ _ _ _ _ _
    · obtain ⟨k, hkk⟩ : ∃ k : Nat, lastEq (s.extract 0 i) = k := ⟨(lastEq (s.extract 0 i)).toNat, by omega⟩
      have h2 := lastEq_two (s := s.extract 0 i) (by omega)
      rw [HTS.out, hkk, Int.toNat_natCast] at h2
      have HKK := Aside.mk hkk
      rw [hkk]
      have k0 : (0 : Int) ≤ (k : Int) := by omega
      have k1 : (k : Int) ≤ (s.size : Int) := by omega
      have kneg : decide ((k : Int) < 0) = false := decide_eq_false (by omega)
      have k2 : IntKind.i64.wrap ((k : Int) + 2) = (k : Int) + 2 := by rw [IntKind.wrap_i64]; have := HZ.out; omega
      have k3 : (k : Int) + 2 ≤ (i : Int) := by omega
      have k4 : (0 : Int) ≤ (k : Int) + 2 := by omega
      have k5 : ((k : Int) + 2).toNat = k + 2 := by omega
      clear hkk hk
      have HT := Aside.mk (show (s.extract 0 i).extract (k + 2) (s.extract 0 i).size = s.extract (k + 2) i by rw [HTS.out]; exact ext_ext (Nat.le_refl _))
      have HTP := Aside.mk (show (s.extract 0 i).extract 0 k = s.extract 0 k from ext_ext (by omega))
      obtain ⟨T, hT⟩ : ∃ T, T = s.extract (k + 2) i := ⟨_, rfl⟩
      have hTz : T.size ≤ s.size := by rw [hT]; exact extract_le _ _ _
      have HAT := Aside.mk (atoiC T W0 (by have := HZ.out; omega) ((HE.out.below HB.out).err))
      have HBE := Aside.mk (show (numV T = none ∨ ∃ n, numV T = some n ∧ ¬ (0 ≤ n ∧ n ≤ 65520)) → entE s = 10 ∧ entO s = opNo from fun h => by
        rw [HA.out.1, HA.out.2, body_bad HKK.out (by rw [HT.out, ← hT]; exact h)]
        exact ⟨rfl, rfl⟩)
      have HBS := Aside.mk (fun (n : Int) (h1 : numV T = some n) (h2 : 0 ≤ n ∧ n ≤ 65520) => body_sum HKK.out (by rw [HT.out, ← hT]; exact h1) h2)
      rw [HTP.out] at HBS
      go_wp2_with fail
      rw [← hT]
      have HTE := Aside.mk hT
      clear hT
      refine HAT.out.mono ?_
      rintro e w2 ⟨v, ev, rfl, hev, hb⟩
      have HB2 := Aside.mk (below_step HB.out hb)
      have HR2 := Aside.mk (HR.out.below hb)
      have p2 := HR2.out.twelve
      clear hb HAT p0 HB HR
      rcases hev with ⟨rfl, hv, hv0, hv1⟩ | ⟨⟨tt, pp, rfl⟩, hn⟩
      · have HNU := Aside.mk (fun (n : Int) (h : numV T = some n) => show n = v by
          have := numV_all h
          rw [hv] at this
          injection this with this
          exact this.symm)
        by_cases hr : 0 ≤ v ∧ v ≤ 65520
        · by_cases hd : decS v = T
          · have HNV := Aside.mk (show numV T = some v by rw [← hd]; exact num_dec (by omega) (by omega))
            have g1 : ((decS v).toList == (s.extract (k + 2) i).toList) = true := by rw [← HTE.out, toList_beq, decide_eq_true hd]
            have g2 : ((decS v).toList != (s.extract (k + 2) i).toList) = false := by rw [bne, g1]; rfl
            have g3 : decide (v < 0) = false := decide_eq_false (by omega)
            have g4 : decide (65520 < v) = false := decide_eq_false (by omega)
            have HVR := Aside.mk hr
            clear hd hv hr
            go_upto_region 8 with fail
            go_region_held3 (fun w' => Aside (Below w2.heap.size w2 w'))
              (first
               | with_reducible exact ⟨(Below.refl w2.heap.size w2).drew⟩
               | assumption)
              (first
               | (go_at_call 62
                  with_reducible refine (itoaC v hv0 hv1 w2.drew ((HE.out.below HB2.out).pow.below (Below.refl w2.heap.size w2).drew)).mono ?_
                  rintro e w4 ⟨rfl, hb4⟩
                  have hx : Aside (Below w2.heap.size w2 w4) := ⟨below_step (Below.refl w2.heap.size w2).drew hb4⟩
                  clear hb4))
            have HR4 := Aside.mk (HR2.out.below hx.out)
            have p4 := HR4.out.twelve
            have HB4 := Aside.mk (below_step HB2.out hx.out)
            have HS := Aside.mk (HBS.out v HNV.out HVR.out)
            have HKZ : Aside ((s.extract 0 k).size < 4294967281) := ⟨Nat.lt_of_le_of_lt (extract_le s 0 k) HZ.out⟩
            clear p2 hx HBS HNV HNU HBE HB2 HR2
            go_wp2_with fail
            refine (logSum (s.extract 0 k) w4 HKZ.out).mono ?_
            rintro e w5 ⟨rfl, rfl⟩
            by_cases hsum : sumV (s.extract 0 k) = v
            · have g5 : (v == sumV (s.extract 0 k)) = true := beq_iff_eq.2 hsum.symm
              have g6 : (v != sumV (s.extract 0 k)) = false := by rw [bne, g5]; rfl
              have HPA := Aside.mk (logParse (s.extract 0 k) w4 HKZ.out (HE.out.below HB4.out))
              have HS2 := Aside.mk (HS.out.trans (if_neg (by simpa using hsum)))
              clear hsum HS
              go_wp2_with fail
              refine HPA.out.mono ?_
              rintro e w5 ⟨o, v1, v2, v3, he, hso, ⟨X1, d1, rfl, hd1, r1⟩, ⟨X2, d2, rfl, hd2, r2⟩, ⟨X3, d3, rfl, hd3, r3⟩, hb⟩
              obtain rfl : e = .returned (.tuple #[.agg #[.int .i64 o.kind, .int .i64 o.who.role, .int .i64 o.who.why, .int .i64 o.who.time, .slice X1 o.rules.length d1, .string o.r.id, .int .i64 o.r.cats, .slice X2 o.r.fields.length d2, .slice X3 o.r.refs.length d3, .string o.id, .string o.f.key, .string o.f.val], .bool (saidX (parts 32 (s.extract 0 k))).isSome]) := he
              have hal : Below w5.heap.size w5 (w5.alloc (.cells #[.int .i64 o.kind, .int .i64 o.who.role, .int .i64 o.who.why, .int .i64 o.who.time, .slice X1 o.rules.length d1, .string o.r.id, .int .i64 o.r.cats, .slice X2 o.r.fields.length d2, .slice X3 o.r.refs.length d3, .string o.id, .string o.f.key, .string o.f.val] 40)) := (Below.refl _ _).alloc (Nat.le_refl _) _
              have HB6 := Aside.mk (below_step (below_step HB4.out hb) hal)
              have HR6 := Aside.mk ((HR4.out.below hb).below hal)
              have HQ6 := Aside.mk (Bk.made w5 [.int .i64 o.kind, .int .i64 o.who.role, .int .i64 o.who.why, .int .i64 o.who.time, .slice X1 o.rules.length d1, .string o.r.id, .int .i64 o.r.cats, .slice X2 o.r.fields.length d2, .slice X3 o.r.refs.length d3, .string o.id, .string o.f.key, .string o.f.val] 40)
              have hsz : w.heap.size < w4.heap.size := HR4.out.lt
              have HRW := Aside.mk (show (rulR.Row _ (fun k => w4.heap.size ≤ k) X1 o.rules ∧ fldR.Row _ (fun k => w4.heap.size ≤ k) X2 o.r.fields ∧ str.Row _ (fun k => w4.heap.size ≤ k) X3 o.r.refs) ∧ o.rules.length ≤ d1 ∧ o.r.fields.length ≤ d2 ∧ o.r.refs.length ≤ d3 ∧ w.heap.size < w4.heap.size from ⟨⟨r1.below hal, r2.below hal, r3.below hal⟩, hd1, hd2, hd3, hsz⟩)
              have HSO := Aside.mk hso
              have HQN := Aside.mk (show w.heap.size < w5.heap.size from Nat.lt_of_lt_of_le hsz hb.size)
              clear HPA hso r1 r2 r3 hd1 hd2 hd3 hb hal hsz p4 HB4 HR4
              cases hsd : saidX (parts 32 (s.extract 0 k)) with
              | none =>
                have HH : Aside (entE s = 10 ∧ entO s = opNo) := ⟨by rw [HA.out.1, HA.out.2, HS2.out, hsd]; exact ⟨rfl, rfl⟩⟩
                have p6 := HR6.out.twelve
                rw [show (none : Option OpV).isSome = false from rfl]
                clear hsd
                go_wp2_with fail
                refine bodyPost_ret (v := .tuple #[.agg #[.int .i64 0, .int .i64 0, .int .i64 0, .int .i64 0, .slice none 0 0, .string ⟨#[]⟩, .int .i64 0, .slice none 0 0, .slice none 0 0, .string ⟨#[]⟩, .string ⟨#[]⟩, .string ⟨#[]⟩], .int .i64 0, .int .i64 10]) ?_ rfl (ReadD.bad HH.out (by decide) ?_)
                · simp [results, Tryz.results40, go_sem, p6]
                · exact below_twelve (HB6.out) (Nat.le_refl _) _ _ _ _ _ _ _ _ _ _ _ _
              | some x =>
                obtain rfl := HSO.out x hsd
                have HS3 := Aside.mk (show bodyE (s.extract 0 i) = if logErr o ≠ 0 then (opNo, logErr o) else (o, 0) by rw [HS2.out, hsd])
                have HC := Aside.mk (logCheck o X1 X2 X3 d1 d2 d3 _ _ _ _ HRW.out.1.1 HRW.out.1.2.1 HRW.out.1.2.2 (said_wf hsd))
                rw [show (some o : Option OpV).isSome = true from rfl]
                clear hsd HSO HS2
                go_upto_region 13 with fail
                generalize hq : w5.heap.size = q at HQ6 HQN ⊢
                generalize w5.alloc _ = w6 at HB6 HR6 HQ6 HRW HC ⊢
                clear hq
                have q6 := HQ6.out.twelve
                unfold opVal at HC
                go_wp2_with fail
                refine HC.out.mono ?_
                rintro e w7 ⟨rfl, hb⟩
                have HB7 := Aside.mk (below_step HB6.out hb)
                have p7 := (HR6.out.below hb).twelve
                have q7 := (HQ6.out.below hb).twelve
                have HRW7 := Aside.mk (And.intro (HRW.out.1.1.below hb) (And.intro (HRW.out.1.2.1.below hb) (HRW.out.1.2.2.below hb)))
                have hqn : q ≠ w.heap.size := by have := HQN.out; omega
                clear q6 hb HB6 HR6 HQ6 HC
                by_cases h0 : logErr o = 0
                · have HO : Aside (entE s = 0 ∧ entO s = o ∧ entN s = (i : Int) + 1) := ⟨by
                    have h1 : entE s = 0 := by rw [HA.out.1, HS3.out, if_neg (by simpa using h0)]
                    refine ⟨h1, by rw [HA.out.2, HS3.out, if_neg (by simpa using h0)], ?_⟩
                    unfold entN
                    rw [if_pos h1, HHI.out]⟩
                  have i2 : IntKind.i64.wrap ((i : Int) + 1) = (i : Int) + 1 := by rw [IntKind.wrap_i64]; have := HZ.out; omega
                  rw [h0]
                  clear h0
                  go_wp2_with fail
                  refine bodyPost_ret (v := .tuple #[.agg #[.int .i64 o.kind, .int .i64 o.who.role, .int .i64 o.who.why, .int .i64 o.who.time, .slice X1 o.rules.length d1, .string o.r.id, .int .i64 o.r.cats, .slice X2 o.r.fields.length d2, .slice X3 o.r.refs.length d3, .string o.id, .string o.f.key, .string o.f.val], .int .i64 ((i : Int) + 1), .int .i64 0]) ?_ rfl ?_
                  · simp [results, Tryz.results40, go_sem, p7]
                  · unfold ReadD
                    rw [HO.out.1, HO.out.2.1, HO.out.2.2]
                    refine ⟨_, _, _, rfl, ⟨⟨_, _, rfl, HRW.out.2.1, ?_⟩, ⟨_, _, rfl, HRW.out.2.2.1, ?_⟩, ⟨_, _, rfl, HRW.out.2.2.2.1, ?_⟩⟩, below_twelve HB7.out (Nat.le_refl _) _ _ _ _ _ _ _ _ _ _ _ _⟩
                    · exact (HRW7.out.1.move fun k hk _ => set_twelve (by have := HRW.out.2.2.2.2; omega)).mono fun k hk _ => by have := HRW.out.2.2.2.2; omega
                    · exact (HRW7.out.2.1.move fun k hk _ => set_twelve (by have := HRW.out.2.2.2.2; omega)).mono fun k hk _ => by have := HRW.out.2.2.2.2; omega
                    · exact (HRW7.out.2.2.move fun k hk _ => set_twelve (by have := HRW.out.2.2.2.2; omega)).mono fun k hk _ => by have := HRW.out.2.2.2.2; omega
                · have HH : Aside (entE s = logErr o ∧ entO s = opNo) := ⟨by rw [HA.out.1, HA.out.2, HS3.out, if_pos h0]; exact ⟨rfl, rfl⟩⟩
                  have g7 : (logErr o != 0) = true := by simp [h0]
                  have H0 := Aside.mk h0
                  clear h0
                  go_wp2_with fail
                  refine bodyPost_ret (v := .tuple #[.agg #[.int .i64 0, .int .i64 0, .int .i64 0, .int .i64 0, .slice none 0 0, .string ⟨#[]⟩, .int .i64 0, .slice none 0 0, .slice none 0 0, .string ⟨#[]⟩, .string ⟨#[]⟩, .string ⟨#[]⟩], .int .i64 0, .int .i64 (logErr o)]) ?_ rfl (ReadD.bad HH.out H0.out ?_)
                  · simp [results, Tryz.results40, go_sem, p7]
                  · exact below_twelve (HB7.out) (Nat.le_refl _) _ _ _ _ _ _ _ _ _ _ _ _
            · have HH : Aside (entE s = 8 ∧ entO s = opNo) := ⟨by rw [HA.out.1, HA.out.2, HS.out, if_pos hsum]; exact ⟨rfl, rfl⟩⟩
              have g5 : (v == sumV (s.extract 0 k)) = false := beq_eq_false_iff_ne.2 fun h => hsum h.symm
              have g6 : (v != sumV (s.extract 0 k)) = true := by rw [bne, g5]; rfl
              clear hsum HS
              go_wp2_with fail
              refine bodyPost_ret (v := .tuple #[.agg #[.int .i64 0, .int .i64 0, .int .i64 0, .int .i64 0, .slice none 0 0, .string ⟨#[]⟩, .int .i64 0, .slice none 0 0, .slice none 0 0, .string ⟨#[]⟩, .string ⟨#[]⟩, .string ⟨#[]⟩], .int .i64 0, .int .i64 8]) ?_ rfl (ReadD.bad HH.out (by decide) ?_)
              · simp [results, Tryz.results40, go_sem, p4]
              · exact below_twelve (HB4.out) (Nat.le_refl _) _ _ _ _ _ _ _ _ _ _ _ _
          · have HH := Aside.mk (HBE.out (.inl (by
              cases hnv : numV T with
              | none => rfl
              | some n =>
                exfalso
                have h1 := HNU.out n hnv
                have h2 := (numV_iff.1 hnv).2
                rw [h1] at h2
                exact hd h2)))
            have g1 : ((decS v).toList == (s.extract (k + 2) i).toList) = false := by rw [← HTE.out, toList_beq, decide_eq_false hd]
            have g2 : ((decS v).toList != (s.extract (k + 2) i).toList) = true := by rw [bne, g1]; rfl
            have g3 : decide (v < 0) = false := decide_eq_false (by omega)
            have g4 : decide (65520 < v) = false := decide_eq_false (by omega)
            clear hd hv hr
            go_upto_region 8 with fail
            go_region_held3 (fun w' => Aside (Below w2.heap.size w2 w'))
              (first
               | with_reducible exact ⟨(Below.refl w2.heap.size w2).drew⟩
               | assumption)
              (first
               | (go_at_call 62
                  with_reducible refine (itoaC v hv0 hv1 w2.drew ((HE.out.below HB2.out).pow.below (Below.refl w2.heap.size w2).drew)).mono ?_
                  rintro e w4 ⟨rfl, hb4⟩
                  have hx : Aside (Below w2.heap.size w2 w4) := ⟨below_step (Below.refl w2.heap.size w2).drew hb4⟩
                  clear hb4))
            have p4 := (HR2.out.below hx.out).twelve
            have HB4 := Aside.mk (below_step HB2.out hx.out)
            clear p2
            go_wp2_with fail
            refine bodyPost_ret (v := .tuple #[.agg #[.int .i64 0, .int .i64 0, .int .i64 0, .int .i64 0, .slice none 0 0, .string ⟨#[]⟩, .int .i64 0, .slice none 0 0, .slice none 0 0, .string ⟨#[]⟩, .string ⟨#[]⟩, .string ⟨#[]⟩], .int .i64 0, .int .i64 10]) ?_ rfl (ReadD.bad HH.out (by decide) ?_)
            · simp [results, Tryz.results40, go_sem, p4]
            · exact below_twelve (HB4.out) (Nat.le_refl _) _ _ _ _ _ _ _ _ _ _ _ _
        · have HH := Aside.mk (HBE.out (by
            cases hnv : numV T with
            | none => exact .inl rfl
            | some n => exact .inr ⟨n, rfl, by rw [HNU.out n hnv]; exact hr⟩))
          by_cases hneg : v < 0
          · have g3 : decide (v < 0) = true := decide_eq_true hneg
            clear hv hr hneg
            go_upto_region 8 with fail
            go_quiet (fail)
            go_wp2_with fail
            refine bodyPost_ret (v := .tuple #[.agg #[.int .i64 0, .int .i64 0, .int .i64 0, .int .i64 0, .slice none 0 0, .string ⟨#[]⟩, .int .i64 0, .slice none 0 0, .slice none 0 0, .string ⟨#[]⟩, .string ⟨#[]⟩, .string ⟨#[]⟩], .int .i64 0, .int .i64 10]) ?_ rfl (ReadD.bad HH.out (by decide) ?_)
            · simp [results, Tryz.results40, go_sem, p2]
            · exact below_twelve (below_drewN HB2.out _) (Nat.le_refl _) _ _ _ _ _ _ _ _ _ _ _ _
          · have g3 : decide (v < 0) = false := decide_eq_false hneg
            have g4 : decide (65520 < v) = true := decide_eq_true (by omega)
            clear hv hr hneg
            go_upto_region 8 with fail
            go_quiet (fail)
            go_wp2_with fail
            refine bodyPost_ret (v := .tuple #[.agg #[.int .i64 0, .int .i64 0, .int .i64 0, .int .i64 0, .slice none 0 0, .string ⟨#[]⟩, .int .i64 0, .slice none 0 0, .slice none 0 0, .string ⟨#[]⟩, .string ⟨#[]⟩, .string ⟨#[]⟩], .int .i64 0, .int .i64 10]) ?_ rfl (ReadD.bad HH.out (by decide) ?_)
            · simp [results, Tryz.results40, go_sem, p2]
            · exact below_twelve (below_drewN HB2.out _) (Nat.le_refl _) _ _ _ _ _ _ _ _ _ _ _ _
      · have HH := Aside.mk (HBE.out (.inl hn))
        clear hn
        go_upto_region 8 with fail
        go_quiet (fail)
        go_wp2_with fail
        refine bodyPost_ret (v := .tuple #[.agg #[.int .i64 0, .int .i64 0, .int .i64 0, .int .i64 0, .slice none 0 0, .string ⟨#[]⟩, .int .i64 0, .slice none 0 0, .slice none 0 0, .string ⟨#[]⟩, .string ⟨#[]⟩, .string ⟨#[]⟩], .int .i64 0, .int .i64 10]) ?_ rfl (ReadD.bad HH.out (by decide) ?_)
        · simp [results, Tryz.results40, go_sem, p2]
        · exact below_twelve (below_drewN HB2.out _) (Nat.le_refl _) _ _ _ _ _ _ _ _ _ _ _ _
end Go.Proofs.WK
namespace Go.Proofs.WK
open Go.RowKit Rp
theorem infoOpA : (Tryz.prog.info? 40).map (fun i => (i.zero, i.size, i.bytes)) = some (some (.agg #[.int .i64 0, .int .i64 0, .int .i64 0, .int .i64 0, .slice none 0 0, .string ByteArray.empty, .int .i64 0, .slice none 0 0, .slice none 0 0, .string ByteArray.empty, .string ByteArray.empty, .string ByteArray.empty]), 12, 176) := by kernel_rfl
/-- What log.All hands back. -/
def allW (s : ByteArray) : List OpV × Int × Int := if 20000 < s.size then ([], 0, 2) else linV s
def AllD (s : ByteArray) (w : World) (e : Ending) (w' : World) : Prop :=
  ∃ v, e = .returned (.tuple #[v, .int .i64 (allW s).2.1, .int .i64 (allW s).2.2]) ∧ opRp.Sl w' (fun k => w.heap.size ≤ k) v (allW s).1 ∧ Below w.heap.size w w'
theorem opK_mk {w : World} {ok : Nat → Prop} {o : OpV} {v1 v2 v3 : Value} (h : OpIn w ok o v1 v2 v3) : opRp.K w ok o (opL o v1 v2 v3) := ⟨v1, v2, v3, rfl, h.1, h.2.1, h.2.2⟩
/-- While lines are read. -/
structure AlS (s : ByteArray) (w W : World) (v : Value) (out : List OpV) (u f : Nat) : Prop where
  at_ : LinAt s out u f
  fuel : s.size + 1 ≤ u + f
  le : u ≤ s.size
  len : out.length ≤ u
  own : opRp.Own 40 W w.heap.size (fun k => w.heap.size ≤ k) v out
  bel : Below w.heap.size w W
theorem Own.sl_base {W : World} {base : Nat} {v : Value} {xs : List OpV} (h : opRp.Own 40 W base (fun k => base ≤ k) v xs) : opRp.Sl W (fun k => base ≤ k) v xs :=
  h.sl.mono fun k hk _ => hk.elim id fun h2 => (h.lt k h2).1
set_option maxRecDepth 100000 in
set_option maxHeartbeats 4000000 in
theorem logAll (s : ByteArray) (w : World) (hs : s.size < 4294967281) (he : EnvC w) : Calls Tryz.prog 16 #[.string s] w (AllD s w) := by
  by_cases h2 : 20000 < s.size
  · have g2 : decide ((20000 : Int) < (s.size : Int)) = true := decide_eq_true (by omega)
    have HH := Aside.mk (show allW s = ([], 0, 2) from if_pos h2)
    clear h2 he
    go_enter Tryz.func16, Tryz.ntmps16
    go_wp2_with fail
    refine bodyPost_ret (v := .tuple #[.slice none 0 0, .int .i64 0, .int .i64 2]) (by simp [results, Tryz.results16, go_sem]) rfl ?_
    unfold AllD
    rw [HH.out]
    exact ⟨_, rfl, Sl.nil _ _ _, Below.refl _ _⟩
  · have g2 : decide ((20000 : Int) < (s.size : Int)) = false := decide_eq_false (by omega)
    have hs2 : s.size ≤ 20000 := by omega
    have HH := Aside.mk (show allW s = linV s from if_neg h2)
    have HE := Aside.mk he
    clear h2 he hs
    go_enter Tryz.func16, Tryz.ntmps16
    go_wp2_with fail
    go_loopw [5, 6] (fun o i wr => ∃ (v : Value) (out : List OpV) (u f : Nat), o = v ∧ i = .int .i64 u ∧ Aside (AlS s w wr v out u f)) (fun _ i _ => s.size - (intOf i).toNat)
    case atStart => exact ⟨_, [], 0, s.size + 1, rfl, rfl, ⟨⟨linAt_start s, by omega, Nat.zero_le _, Nat.le_refl _, Own.nil _ _ _ _ _, Below.refl _ _⟩⟩⟩
    case round =>
      obtain ⟨v, out, u, f, rfl, rfl, HA⟩ := hrel
      have hu := HA.out.le
      obtain ⟨AO, cO, rfl, hcO, _⟩ := HA.out.own.sl
      by_cases hlt : u < s.size
      · have u0 : (0 : Int) ≤ (u : Int) := by omega
        have u1 : (u : Int) ≤ (s.size : Int) := by omega
        have HC := Aside.mk (logRead (s.extract u s.size) wr (Nat.lt_of_le_of_lt (extract_le s u s.size) (by omega)) (HE.out.below HA.out.bel))
        go_wp2_with fail
        refine HC.out.mono ?_
        rintro e w2 ⟨v1, v2, v3, he, ⟨⟨X1, d1, rfl, hd1, r1⟩, ⟨X2, d2, rfl, hd2, r2⟩, ⟨X3, d3, rfl, hd3, r3⟩⟩, hb⟩
        obtain ⟨t, ht⟩ : ∃ t, t = s.extract u s.size := ⟨_, rfl⟩
        rw [← ht] at he hd1 hd2 hd3 r1 r2 r3 ⊢
        have HTT := Aside.mk ht
        clear ht
        obtain rfl : e = .returned (.tuple #[.agg #[.int .i64 (entO t).kind, .int .i64 (entO t).who.role, .int .i64 (entO t).who.why, .int .i64 (entO t).who.time, .slice X1 (entO t).rules.length d1, .string (entO t).r.id, .int .i64 (entO t).r.cats, .slice X2 (entO t).r.fields.length d2, .slice X3 (entO t).r.refs.length d3, .string (entO t).id, .string (entO t).f.key, .string (entO t).f.val], .int .i64 (entN t), .int .i64 (entE t)]) := he
        have hal : Below w2.heap.size w2 (w2.alloc (.cells #[.int .i64 (entO t).kind, .int .i64 (entO t).who.role, .int .i64 (entO t).who.why, .int .i64 (entO t).who.time, .slice X1 (entO t).rules.length d1, .string (entO t).r.id, .int .i64 (entO t).r.cats, .slice X2 (entO t).r.fields.length d2, .slice X3 (entO t).r.refs.length d3, .string (entO t).id, .string (entO t).f.key, .string (entO t).f.val] 40)) := (Below.refl _ _).alloc (Nat.le_refl _) _
        have HA2 := Aside.mk (show AlS s w _ (.slice AO out.length cO) out u f from let h := HA.out; ⟨h.at_, h.fuel, h.le, h.len, (h.own.below hb).below hal, below_step (below_step h.bel hb) hal⟩)
        have HQ2 := Aside.mk (Bk.made w2 [.int .i64 (entO t).kind, .int .i64 (entO t).who.role, .int .i64 (entO t).who.why, .int .i64 (entO t).who.time, .slice X1 (entO t).rules.length d1, .string (entO t).r.id, .int .i64 (entO t).r.cats, .slice X2 (entO t).r.fields.length d2, .slice X3 (entO t).r.refs.length d3, .string (entO t).id, .string (entO t).f.key, .string (entO t).f.val] 40)
        have HWR := Aside.mk (show w.heap.size ≤ wr.heap.size ∧ ∀ k, (Value.slice AO out.length cO).ownBlock = some k → k < wr.heap.size from ⟨HA.out.bel.size, fun k hk => (HA.out.own.lt k hk).2⟩)
        have HRW := Aside.mk (show OpIn _ (fun k => w.heap.size ≤ k ∧ some k ≠ (Value.slice AO out.length cO).ownBlock) (entO t) (.slice X1 (entO t).rules.length d1) (.slice X2 (entO t).r.fields.length d2) (.slice X3 (entO t).r.refs.length d3) from by
          have hk : ∀ k, wr.heap.size ≤ k → w.heap.size ≤ k ∧ some k ≠ (Value.slice AO out.length cO).ownBlock := fun k hk => ⟨Nat.le_trans HWR.out.1 hk, fun e => by have := HWR.out.2 k e.symm; omega⟩
          exact ⟨⟨_, _, rfl, hd1, (r1.below hal).mono fun k h _ => hk k h⟩, ⟨_, _, rfl, hd2, (r2.below hal).mono fun k h _ => hk k h⟩, ⟨_, _, rfl, hd3, (r3.below hal).mono fun k h _ => hk k h⟩⟩)
        clear hal hb r1 r2 r3 hd1 hd2 hd3 HC HA
        go_upto_region 7 with fail
        generalize hq : w2.heap.size = q at HQ2 ⊢
        generalize w2.alloc _ = w3 at HA2 HQ2 HRW ⊢
        clear hq
        have q3 := HQ2.out.twelve
        by_cases h7 : entE t = 7
        · have HL := Aside.mk (linAt_end HA2.out.at_ (by rw [← HTT.out]; exact h7))
          have g7 : (entE t == 7) = true := beq_iff_eq.2 h7
          clear h7
          go_wp2_with fail
          refine bodyPost_ret (v := .tuple #[.slice AO out.length cO, .int .i64 u, .int .i64 0]) (by simp [results, Tryz.results16, go_sem]) rfl ?_
          unfold AllD
          rw [HH.out, HL.out]
          exact ⟨_, rfl, (Own.sl_base HA2.out.own), HA2.out.bel⟩
        · have g7 : (entE t == 7) = false := beq_eq_false_iff_ne.2 h7
          have hf := HA2.out.fuel
          obtain ⟨f', rfl⟩ : ∃ f', f = f' + 1 := ⟨f - 1, by omega⟩
          by_cases h0 : entE t = 0
          · have HT := Aside.mk (linAt_step HA2.out.at_ (by rw [← HTT.out]; exact h0))
            have hn := entN_le t
            have hp := entN_pos h0
            have hts : t.size = s.size - u := by rw [HTT.out, ByteArray.size_extract]; omega
            rw [← HTT.out] at HT
            obtain ⟨n, hnn⟩ : ∃ n : Nat, entN t = n := ⟨(entN t).toNat, by omega⟩
            rw [hnn] at hn hp HT ⊢
            have hn2 : u + n ≤ s.size := by omega
            have hn1 : 1 ≤ n := by omega
            have HLN : Aside ((out.length + 1) * 176 ≤ 140737488355328) := ⟨by have := HA2.out.len; omega⟩
            have hone : ∀ x : OpV, (out ++ [x]).length = out.length + 1 := fun x => by simp
            have w1 : IntKind.i64.wrap ((u : Int) + (n : Int)) = (u : Int) + (n : Int) := by rw [IntKind.wrap_i64]; omega
            rw [h0]
            clear h7 h0 hn hp hts hnn g7
            go_wp2_with (at_builtin
                         refine append_one (w0 := w3) opRp w.heap.size rfl (.tmp 30) (.tmp 32) 28 40 _ 176 rfl Tryz.underlying28 infoOpA rfl (by decide) (by decide) (.slice AO out.length cO) out (entO t) [.int .i64 (entO t).kind, .int .i64 (entO t).who.role, .int .i64 (entO t).who.why, .int .i64 (entO t).who.time, .slice X1 (entO t).rules.length d1, .string (entO t).r.id, .int .i64 (entO t).r.cats, .slice X2 (entO t).r.fields.length d2, .slice X3 (entO t).r.refs.length d3, .string (entO t).id, .string (entO t).f.key, .string (entO t).f.val] (fun k => w.heap.size ≤ k) rfl rfl (opK_mk HRW.out) HA2.out.own (Below.refl _ _) HA2.out.bel.size HLN.out ?_
                         intro v1 w5 HO1 HB1 hg5 hat
                         obtain ⟨AX, cX, rfl, hcX, _⟩ := HO1.sl
                         rw [hone] at HO1
                         simp only [hone]
                         have HX5 := Aside.mk (And.intro HO1 (HA2.out.bel.trans HB1))
                         clear HO1 HB1 hg5 hat)
            exact ⟨⟨_, _, u + n, f', rfl, by first | go_num | (rw [Int.natCast_add]), ⟨⟨by simpa using HT.out, by omega, hn2, by rw [hone]; have := HA2.out.len; omega, HX5.out.1, HX5.out.2⟩⟩⟩, by simp [intOf]; omega⟩
          · have HL := Aside.mk (linAt_bad HA2.out.at_ (by rw [← HTT.out]; exact h7) (by rw [← HTT.out]; exact h0))
            rw [← HTT.out] at HL
            have g0 : (entE t != 0) = true := by simp [h0]
            clear h7 h0 hf
            go_wp2_with fail
            refine bodyPost_ret (v := .tuple #[.slice none 0 0, .int .i64 0, .int .i64 (entE t)]) (by simp [results, Tryz.results16, go_sem]) rfl ?_
            unfold AllD
            rw [HH.out, HL.out]
            exact ⟨_, rfl, Sl.nil _ _ _, HA2.out.bel⟩
      · obtain rfl : u = s.size := by omega
        have HL := Aside.mk (linAt_end HA.out.at_ (entE_empty (by rw [ByteArray.size_extract]; omega)))
        go_wp2_with fail
        refine bodyPost_ret (v := .tuple #[.slice AO out.length cO, .int .i64 s.size, .int .i64 0]) (by simp [results, Tryz.results16, go_sem]) rfl ?_
        unfold AllD
        rw [HH.out, HL.out]
        exact ⟨_, rfl, (Own.sl_base HA.out.own), HA.out.bel⟩
end Go.Proofs.WK
