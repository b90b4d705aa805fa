/-
  The law LogReads.
-/
import Derived.Test.YtljjiicjnoljbaaGreatDoorEntV
import Derived.Test.YtljjiicjnoljbaaGreatDoorLogR
import Derived.Test.YtljjiicjnoljbaaGreatDoorSamO
namespace Go.Proofs.WK
open Go.RowKit Rp
def litR : ByteArray := ⟨#[114, 117, 108, 101, 115, 32, 61, 49, 50, 51, 52, 10]⟩
theorem lit_read : entO litR = opNo ∧ entN litR = 0 ∧ entE litR = 8 := by
  have hi : Lib.indexB litR (one 10) = (11 : Nat) := by decide +kernel
  have hl : lastEq (litR.extract 0 11) = (5 : Nat) := by decide +kernel
  have hn : numV ((litR.extract 0 11).extract (5 + 2) (litR.extract 0 11).size) = some 1234 := by
    rw [show (litR.extract 0 11).extract (5 + 2) (litR.extract 0 11).size = decS 1234 by decide +kernel]
    exact num_dec (by decide) (by decide)
  have hb : bodyE (litR.extract 0 11) = (opNo, 8) := by
    rw [body_sum hl hn (by decide)]
    exact if_pos (by decide +kernel)
  obtain ⟨h1, h2⟩ := ent_at hi
  rw [hb] at h1 h2
  refine ⟨h2, ?_, h1⟩
  unfold entN
  rw [if_neg (by rw [h1]; decide)]
theorem all_len {s : ByteArray} {out : List OpV} {u : Nat} (h : linV s = (out, (u : Int), 0)) (hs : ¬ 20000 < s.size) : (allW s).1 = out ∧ (allW s).2.1 = u ∧ (allW s).2.2 = 0 := by
  unfold allW
  rw [if_neg hs, h]
  exact ⟨rfl, rfl, rfl⟩
theorem all_bad {s : ByteArray} {e : Int} (h : linV s = ([], 0, e)) (hs : ¬ 20000 < s.size) : (allW s).1 = [] ∧ (allW s).2.1 = 0 ∧ (allW s).2.2 = e := by
  unfold allW
  rw [if_neg hs, h]
  exact ⟨rfl, rfl, rfl⟩
set_option maxRecDepth 100000 in
set_option maxHeartbeats 8000000 in
theorem logReadsL (s : ByteArray) (w : World) (hs : s.size < 4294967281) (he : EnvC w) :
    Calls Tryz.prog 7 #[.string s] w fun e w' => e = .returned (.bool true) ∧ Below w.heap.size w w' := by
  have HZ := Aside.mk hs
  have HE := Aside.mk he
  clear hs he
  go_enter Tryz.func7, Tryz.ntmps7
  go_wp2_with fail
  refine (logRead s w HZ.out HE.out).mono ?_
  rintro e w1 ⟨a1, a2, a3, he1, ⟨⟨X1, d1, rfl, _, r1⟩, ⟨X2, d2, rfl, _, r2⟩, ⟨X3, d3, rfl, _, r3⟩⟩, hb⟩
  obtain rfl : e = .returned (.tuple #[.agg #[.int .i64 (entO s).kind, .int .i64 (entO s).who.role, .int .i64 (entO s).who.why, .int .i64 (entO s).who.time, .slice X1 (entO s).rules.length d1, .string (entO s).r.id, .int .i64 (entO s).r.cats, .slice X2 (entO s).r.fields.length d2, .slice X3 (entO s).r.refs.length d3, .string (entO s).id, .string (entO s).f.key, .string (entO s).f.val], .int .i64 (entN s), .int .i64 (entE s)]) := he1
  have hal : Below w1.heap.size w1 (w1.alloc (.cells #[.int .i64 (entO s).kind, .int .i64 (entO s).who.role, .int .i64 (entO s).who.why, .int .i64 (entO s).who.time, .slice X1 (entO s).rules.length d1, .string (entO s).r.id, .int .i64 (entO s).r.cats, .slice X2 (entO s).r.fields.length d2, .slice X3 (entO s).r.refs.length d3, .string (entO s).id, .string (entO s).f.key, .string (entO s).f.val] 40)) := (Below.refl _ _).alloc (Nat.le_refl _) _
  have HQ := Aside.mk (Bk.made w1 [.int .i64 (entO s).kind, .int .i64 (entO s).who.role, .int .i64 (entO s).who.why, .int .i64 (entO s).who.time, .slice X1 (entO s).rules.length d1, .string (entO s).r.id, .int .i64 (entO s).r.cats, .slice X2 (entO s).r.fields.length d2, .slice X3 (entO s).r.refs.length d3, .string (entO s).id, .string (entO s).f.key, .string (entO s).f.val] 40)
  have HR := Aside.mk (OR3.below (o := entO s) (ok := fun k => w.heap.size ≤ k) ⟨r1, r2, r3⟩ hal)
  have HB := Aside.mk (below_step hb hal)
  clear r1 r2 r3 hb hal
  go_upto_region 2 with fail
  generalize hn1 : w1.heap.size = n1 at HQ ⊢
  generalize w1.alloc _ = w2 at HQ HR HB ⊢
  clear hn1
  go_wp2_with fail
  refine (logAll s w2 HZ.out (HE.out.below HB.out)).mono ?_
  rintro e w3 ⟨vl, rfl, ⟨AL, cL, rfl, hcL, rl⟩, hb⟩
  have HL3 := Aside.mk rl
  have HQ3 := Aside.mk (HQ.out.below hb)
  have HR3 := Aside.mk (HR.out.below hb)
  have HB3 := Aside.mk (below_step HB.out hb)
  clear rl hb HQ HR HB
  go_wp2_with fail
  refine (logRead litR w3 (by decide) (HE.out.below HB3.out)).mono ?_
  rintro e w4 ⟨b1, b2, b3, he4, ⟨h1, h2, h3⟩, hb⟩
  rw [lit_read.1] at h1 h2 h3 he4
  rw [lit_read.2.1, lit_read.2.2] at he4
  obtain ⟨N1, m1, rfl, _, r1⟩ := h1
  obtain ⟨N2, m2, rfl, _, r2⟩ := h2
  obtain ⟨N3, m3, rfl, _, r3⟩ := h3
  obtain rfl : e = .returned (.tuple #[.agg #[.int .i64 0, .int .i64 0, .int .i64 0, .int .i64 0, .slice N1 0 m1, .string ⟨#[]⟩, .int .i64 0, .slice N2 0 m2, .slice N3 0 m3, .string ⟨#[]⟩, .string ⟨#[]⟩, .string ⟨#[]⟩], .int .i64 0, .int .i64 8]) := he4
  have hal : Below w4.heap.size w4 (w4.alloc (.cells #[.int .i64 0, .int .i64 0, .int .i64 0, .int .i64 0, .slice N1 0 m1, .string ⟨#[]⟩, .int .i64 0, .slice N2 0 m2, .slice N3 0 m3, .string ⟨#[]⟩, .string ⟨#[]⟩, .string ⟨#[]⟩] 40)) := (Below.refl _ _).alloc (Nat.le_refl _) _
  have HN := Aside.mk (Bk.made w4 [.int .i64 0, .int .i64 0, .int .i64 0, .int .i64 0, .slice N1 0 m1, .string ⟨#[]⟩, .int .i64 0, .slice N2 0 m2, .slice N3 0 m3, .string ⟨#[]⟩, .string ⟨#[]⟩, .string ⟨#[]⟩] 40)
  have HS := Aside.mk (sameOp opNo N1 N2 N3 none none none m1 m2 m3 0 0 0 _ (fun _ => True) _ (OR3.below (o := opNo) (ok := fun k => w3.heap.size ≤ k) ⟨r1, r2, r3⟩ hal) ⟨Row.nil, Row.nil, Row.nil⟩)
  have hb2 := below_step hb hal
  have HQ4 := Aside.mk (HQ3.out.below hb2)
  have HL4 := Aside.mk (HL3.out.below hb2)
  have HR4 := Aside.mk (HR3.out.below hb2)
  have HB4 := Aside.mk (below_step HB3.out hb2)
  clear r1 r2 r3 hb hal hb2 HQ3 HL3 HR3 HB3
  go_upto_region 4 with fail
  generalize hn4 : w4.heap.size = n4 at HN ⊢
  generalize w4.alloc _ = w5 at HN HS HQ4 HL4 HR4 HB4 ⊢
  clear hn4
  have q := (show Bk w5 n4 [.int .i64 0, .int .i64 0, .int .i64 0, .int .i64 0, .slice N1 0 m1, .string ⟨#[]⟩, .int .i64 0, .slice N2 0 m2, .slice N3 0 m3, .string ⟨#[]⟩, .string ⟨#[]⟩, .string ⟨#[]⟩] from HN.out).twelve
  go_wp2_with fail
  refine HS.out.mono ?_
  rintro e w6 ⟨rfl, hb⟩
  have HQ6 := Aside.mk (HQ4.out.below hb)
  have HL6 := Aside.mk (HL4.out.below hb)
  have HR6 := Aside.mk (HR4.out.below hb)
  have HB6 := Aside.mk (below_step HB4.out hb)
  clear hb q HQ4 HL4 HR4 HB4 HN HS
  go_wp2_with fail
  refine (refEntry s w6 HZ.out (HE.out.below HB6.out).max).mono ?_
  rintro e w7 ⟨c1, c2, c3, he1, ⟨⟨Y1, f1, rfl, _, r1⟩, ⟨Y2, f2, rfl, _, r2⟩, ⟨Y3, f3, rfl, _, r3⟩⟩, hb⟩
  obtain rfl : e = .returned (.tuple #[.agg #[.int .i64 (entO s).kind, .int .i64 (entO s).who.role, .int .i64 (entO s).who.why, .int .i64 (entO s).who.time, .slice Y1 (entO s).rules.length f1, .string (entO s).r.id, .int .i64 (entO s).r.cats, .slice Y2 (entO s).r.fields.length f2, .slice Y3 (entO s).r.refs.length f3, .string (entO s).id, .string (entO s).f.key, .string (entO s).f.val], .int .i64 (entN s), .int .i64 (entE s)]) := he1
  have hal : Below w7.heap.size w7 (w7.alloc (.cells #[.int .i64 (entO s).kind, .int .i64 (entO s).who.role, .int .i64 (entO s).who.why, .int .i64 (entO s).who.time, .slice Y1 (entO s).rules.length f1, .string (entO s).r.id, .int .i64 (entO s).r.cats, .slice Y2 (entO s).r.fields.length f2, .slice Y3 (entO s).r.refs.length f3, .string (entO s).id, .string (entO s).f.key, .string (entO s).f.val] 40)) := (Below.refl _ _).alloc (Nat.le_refl _) _
  have HP := Aside.mk (Bk.made w7 [.int .i64 (entO s).kind, .int .i64 (entO s).who.role, .int .i64 (entO s).who.why, .int .i64 (entO s).who.time, .slice Y1 (entO s).rules.length f1, .string (entO s).r.id, .int .i64 (entO s).r.cats, .slice Y2 (entO s).r.fields.length f2, .slice Y3 (entO s).r.refs.length f3, .string (entO s).id, .string (entO s).f.key, .string (entO s).f.val] 40)
  have hb2 := below_step hb hal
  have HQ8 := Aside.mk (HQ6.out.below hb2)
  have HL8 := Aside.mk (HL6.out.below hb2)
  have HB8 := Aside.mk (below_step HB6.out hb2)
  have HS := Aside.mk (sameOp (entO s) X1 X2 X3 Y1 Y2 Y3 d1 d2 d3 f1 f2 f3 _ _ _ (HR6.out.below hb2) (OR3.below (o := entO s) (ok := fun k => w6.heap.size ≤ k) ⟨r1, r2, r3⟩ hal))
  clear r1 r2 r3 hb hal hb2 HQ6 HL6 HR6 HB6
  go_upto_region 7 with fail
  generalize hn7 : w7.heap.size = n7 at HP ⊢
  generalize w7.alloc _ = w8 at HP HS HQ8 HL8 HB8 ⊢
  clear hn7
  have q1 := (show Bk w8 n1 [.int .i64 (entO s).kind, .int .i64 (entO s).who.role, .int .i64 (entO s).who.why, .int .i64 (entO s).who.time, .slice X1 (entO s).rules.length d1, .string (entO s).r.id, .int .i64 (entO s).r.cats, .slice X2 (entO s).r.fields.length d2, .slice X3 (entO s).r.refs.length d3, .string (entO s).id, .string (entO s).f.key, .string (entO s).f.val] from HQ8.out).twelve
  have q7 := (show Bk w8 n7 [.int .i64 (entO s).kind, .int .i64 (entO s).who.role, .int .i64 (entO s).who.why, .int .i64 (entO s).who.time, .slice Y1 (entO s).rules.length f1, .string (entO s).r.id, .int .i64 (entO s).r.cats, .slice Y2 (entO s).r.fields.length f2, .slice Y3 (entO s).r.refs.length f3, .string (entO s).id, .string (entO s).f.key, .string (entO s).f.val] from HP.out).twelve
  have e1 : (entN s != entN s) = false := by simp
  have e2 : (entE s != entE s) = false := by simp
  go_wp2_with fail
  refine HS.out.mono ?_
  rintro e w9 ⟨rfl, hb⟩
  have HL9 := Aside.mk (HL8.out.below hb)
  have HB9 := Aside.mk (below_step HB8.out hb)
  clear hb q1 q7 HP HQ8 HL8 HB8 HS
  by_cases hbig : 20000 < s.size
  · have HA : Aside ((allW s).1 = [] ∧ (allW s).2.1 = 0 ∧ (allW s).2.2 = 2) := ⟨by unfold allW; rw [if_pos hbig]; exact ⟨rfl, rfl, rfl⟩⟩
    have g := decide_eq_true (show (20000 : Int) < (s.size : Int) by omega)
    rw [HA.out.1, HA.out.2.1, HA.out.2.2]
    go_wp2_with fail
    go_ret
    exact ⟨rfl, HB9.out⟩
  · have g := decide_eq_false (show ¬ (20000 : Int) < (s.size : Int) by omega)
    have HBG := Aside.mk hbig
    clear e1 e2 hbig
    obtain ⟨Fv, hF⟩ : ∃ F, F = (allW s).2.2 := ⟨_, rfl⟩
    obtain ⟨Kv, hK⟩ : ∃ K, K = (allW s).2.1 := ⟨_, rfl⟩
    obtain ⟨Lv, hL⟩ : ∃ L, L = (allW s).1 := ⟨_, rfl⟩
    rw [← hF, ← hK, ← hL]
    rw [← hL] at HL9
    have HX := Aside.mk (And.intro hF (And.intro hK hL))
    clear hF hK hL hcL
    go_wp2_with fail
    go_loopw [15, 16] (fun o i wr => ∃ (v : Value) (out : List OpV) (u f : Nat), o = v ∧ i = .int .i64 u ∧ Aside (AlS s w9 wr v out u f)) (fun _ i _ => s.size + 1 - (intOf i).toNat)
    case atStart => exact ⟨_, [], 0, s.size + 1, rfl, rfl, ⟨⟨linAt_start s, by omega, Nat.zero_le _, Nat.le_refl _, Own.nil _ _ _ _ _, Below.refl _ _⟩⟩⟩
    case round =>
      obtain ⟨v, out, u, f, rfl, rfl, HA⟩ := hrel
      have hu := HA.out.le
      obtain ⟨AO, cO, rfl, hcO, _⟩ := HA.out.own.sl
      have u0 : (0 : Int) ≤ (u : Int) := by omega
      have u1 : (u : Int) ≤ (s.size : Int) := by omega
      have HC := Aside.mk (refEntry (s.extract u s.size) wr (Nat.lt_of_le_of_lt (extract_le s u s.size) HZ.out) (((HE.out.below HB9.out).below HA.out.bel).max))
      go_wp2_with fail
      refine HC.out.mono ?_
      rintro e w2 ⟨v1, v2, v3, he, ⟨⟨Z1, g1, rfl, hg1, r1⟩, ⟨Z2, g2, rfl, hg2, r2⟩, ⟨Z3, g3, rfl, hg3, r3⟩⟩, hb⟩
      obtain ⟨t, ht⟩ : ∃ t, t = s.extract u s.size := ⟨_, rfl⟩
      rw [← ht] at he hg1 hg2 hg3 r1 r2 r3 ⊢
      have HTT := Aside.mk ht
      clear ht
      obtain rfl : e = .returned (.tuple #[.agg #[.int .i64 (entO t).kind, .int .i64 (entO t).who.role, .int .i64 (entO t).who.why, .int .i64 (entO t).who.time, .slice Z1 (entO t).rules.length g1, .string (entO t).r.id, .int .i64 (entO t).r.cats, .slice Z2 (entO t).r.fields.length g2, .slice Z3 (entO t).r.refs.length g3, .string (entO t).id, .string (entO t).f.key, .string (entO t).f.val], .int .i64 (entN t), .int .i64 (entE t)]) := he
      have hal : Below w2.heap.size w2 (w2.alloc (.cells #[.int .i64 (entO t).kind, .int .i64 (entO t).who.role, .int .i64 (entO t).who.why, .int .i64 (entO t).who.time, .slice Z1 (entO t).rules.length g1, .string (entO t).r.id, .int .i64 (entO t).r.cats, .slice Z2 (entO t).r.fields.length g2, .slice Z3 (entO t).r.refs.length g3, .string (entO t).id, .string (entO t).f.key, .string (entO t).f.val] 40)) := (Below.refl _ _).alloc (Nat.le_refl _) _
      have HA2 := Aside.mk (show AlS s w9 _ (.slice AO out.length cO) out u f from let h := HA.out; ⟨h.at_, h.fuel, h.le, h.len, (h.own.below hb).below hal, below_step (below_step h.bel hb) hal⟩)
      have HQ2 := Aside.mk (Bk.made w2 [.int .i64 (entO t).kind, .int .i64 (entO t).who.role, .int .i64 (entO t).who.why, .int .i64 (entO t).who.time, .slice Z1 (entO t).rules.length g1, .string (entO t).r.id, .int .i64 (entO t).r.cats, .slice Z2 (entO t).r.fields.length g2, .slice Z3 (entO t).r.refs.length g3, .string (entO t).id, .string (entO t).f.key, .string (entO t).f.val] 40)
      have HWR := Aside.mk (show w9.heap.size ≤ wr.heap.size ∧ ∀ k, (Value.slice AO out.length cO).ownBlock = some k → k < wr.heap.size from ⟨HA.out.bel.size, fun k hk => (HA.out.own.lt k hk).2⟩)
      have HRW := Aside.mk (show OpIn _ (fun k => w9.heap.size ≤ k ∧ some k ≠ (Value.slice AO out.length cO).ownBlock) (entO t) (.slice Z1 (entO t).rules.length g1) (.slice Z2 (entO t).r.fields.length g2) (.slice Z3 (entO t).r.refs.length g3) from by
        have hk : ∀ k, wr.heap.size ≤ k → w9.heap.size ≤ k ∧ some k ≠ (Value.slice AO out.length cO).ownBlock := fun k hk => ⟨Nat.le_trans HWR.out.1 hk, fun e => by have := HWR.out.2 k e.symm; omega⟩
        exact ⟨⟨_, _, rfl, hg1, (r1.below hal).mono fun k h _ => hk k h⟩, ⟨_, _, rfl, hg2, (r2.below hal).mono fun k h _ => hk k h⟩, ⟨_, _, rfl, hg3, (r3.below hal).mono fun k h _ => hk k h⟩⟩)
      clear hal hb r1 r2 r3 hg1 hg2 hg3 HC HA
      go_upto_region 14 with fail
      generalize hq : w2.heap.size = q at HQ2 ⊢
      generalize w2.alloc _ = w3 at HA2 HQ2 HRW ⊢
      clear hq
      have q3 := HQ2.out.twelve
      by_cases h7 : entE t = 7
      · have HL := Aside.mk (all_len (linAt_end HA2.out.at_ (by rw [← HTT.out]; exact h7)) HBG.out)
        have g7 : (entE t == 7) = true := beq_iff_eq.2 h7
        have hFv : Fv = 0 := by rw [HX.out.1, HL.out.2.2]
        have hKv : Kv = u := by rw [HX.out.2.1, HL.out.2.1]
        have hLv : Lv = out := by rw [HX.out.2.2, HL.out.1]
        subst hFv hKv hLv
        have HSO := Aside.mk (equalOps AL AO Lv.length Lv.length cL cO Lv _ _ w3 (HL9.out.below HA2.out.bel) HA2.out.own.row.2.2 rfl rfl)
        clear h7 HX
        go_wp2_with fail
        refine HSO.out.mono ?_
        rintro e w4 ⟨rfl, hb⟩
        have HBE := Aside.mk (below_step (below_step HB9.out HA2.out.bel) hb)
        clear hb
        go_wp2_with fail
        go_ret
        exact ⟨rfl, HBE.out⟩
      · have g7 : (entE t == 7) = false := beq_eq_false_iff_ne.2 h7
        have hf := HA2.out.fuel
        obtain ⟨f', rfl⟩ : ∃ f', f = f' + 1 := ⟨f - 1, by omega⟩
        by_cases h0 : entE t = 0
        · have HT := Aside.mk (linAt_step HA2.out.at_ (by rw [← HTT.out]; exact h0))
          have hn := entN_le t
          have hp := entN_pos h0
          have hts : t.size = s.size - u := by rw [HTT.out, ByteArray.size_extract]; omega
          rw [← HTT.out] at HT
          obtain ⟨n, hnn⟩ : ∃ n : Nat, entN t = n := ⟨(entN t).toNat, by omega⟩
          rw [hnn] at hn hp HT ⊢
          have hn2 : u + n ≤ s.size := by omega
          have hn1 : 1 ≤ n := by omega
          have HLN : Aside ((out.length + 1) * 176 ≤ 140737488355328) := ⟨by have := HA2.out.len; have := HBG.out; omega⟩
          have hone : ∀ x : OpV, (out ++ [x]).length = out.length + 1 := fun x => by simp
          have w1 : IntKind.i64.wrap ((u : Int) + (n : Int)) = (u : Int) + (n : Int) := by rw [IntKind.wrap_i64]; have := HBG.out; omega
          have HSZ := Aside.mk (And.intro hn2 (And.intro hn1 hu))
          rw [h0]
          clear h7 h0 hn hp hts hnn g7
          go_wp2_with (at_builtin
                       refine append_one (w0 := w3) opRp w9.heap.size rfl (.tmp 107) (.tmp 109) 28 40 _ 176 rfl Tryz.underlying28 infoOpA rfl (by decide) (by decide) (.slice AO out.length cO) out (entO t) [.int .i64 (entO t).kind, .int .i64 (entO t).who.role, .int .i64 (entO t).who.why, .int .i64 (entO t).who.time, .slice Z1 (entO t).rules.length g1, .string (entO t).r.id, .int .i64 (entO t).r.cats, .slice Z2 (entO t).r.fields.length g2, .slice Z3 (entO t).r.refs.length g3, .string (entO t).id, .string (entO t).f.key, .string (entO t).f.val] (fun k => w9.heap.size ≤ k) rfl rfl (opK_mk HRW.out) HA2.out.own (Below.refl _ _) HA2.out.bel.size HLN.out ?_
                       intro v1 w5 HO1 HB1 hg5 hat
                       obtain ⟨AX, cX, rfl, hcX, _⟩ := HO1.sl
                       rw [hone] at HO1
                       simp only [hone]
                       have HX5 := Aside.mk (And.intro HO1 (HA2.out.bel.trans HB1))
                       clear HO1 HB1 hg5 hat)
          exact ⟨⟨_, _, u + n, f', rfl, by first | go_num | (rw [Int.natCast_add]), ⟨⟨by simpa using HT.out, by omega, hn2, by rw [hone]; have := HA2.out.len; omega, HX5.out.1, HX5.out.2⟩⟩⟩, by simp [intOf]; omega⟩
        · have HL := Aside.mk (all_bad (linAt_bad HA2.out.at_ (by rw [← HTT.out]; exact h7) (by rw [← HTT.out]; exact h0)) HBG.out)
          rw [← HTT.out] at HL
          have g0 : (entE t != 0) = true := by simp [h0]
          have hFv : Fv = entE t := by rw [HX.out.1, HL.out.2.2]
          have hKv : Kv = 0 := by rw [HX.out.2.1, HL.out.2.1]
          have hLv : Lv = [] := by rw [HX.out.2.2, HL.out.1]
          have gF : (Fv == entE t) = true := beq_iff_eq.2 hFv
          have HBE := Aside.mk (below_step HB9.out HA2.out.bel)
          subst hKv hLv
          clear h7 h0 hf hFv
          go_wp2_with fail
          go_ret
          exact ⟨rfl, HBE.out⟩
end Go.Proofs.WK
