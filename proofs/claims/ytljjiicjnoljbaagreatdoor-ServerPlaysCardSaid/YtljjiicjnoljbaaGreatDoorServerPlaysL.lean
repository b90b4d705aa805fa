/-
  The law ServerPlays.
-/
import Derived.Test.YtljjiicjnoljbaaGreatDoorPlayR
namespace Go.Proofs.WK
open Go.RowKit Rp
theorem fieldTold (x : Int) (v1 v2 v3 : Value) (w : World) : (Instr.field 45 (.agg #[.int .i64 x, v1, v2, v3]) 0).run Tryz.prog w = .ok (.int .i64 x) w := by kernel_rfl
theorem roles0 : roleErr [] = 0 := by decide
set_option maxRecDepth 100000 in
set_option maxHeartbeats 8000000 in
theorem serverPlaysL (A : Option Addr) (c : Nat) (up : List Int) (AO : Option Addr) (cO : Nat) (ops : List OpV) (ok ok' : Nat → Prop) (w : World) (hu : int.Row w ok A up) (hc : up.length ≤ c) (ho : opRp.Row w ok' AO ops) (hwf : ∀ o ∈ ops, RecWf o.r ∧ o.f.val.size ≤ 9223372036854775807) :
    Calls Tryz.prog 6 #[.slice A up.length c, .slice AO ops.length cO] w fun e w' => e = .returned (.bool true) ∧ Below w.heap.size w w' := by
  have HU := Aside.mk (hu.mono (ok' := fun k => k < w.heap.size) fun k _ h => h)
  have HO := Aside.mk (ho.mono (ok' := fun k => k < w.heap.size) fun k _ h => h)
  have HWF := Aside.mk hwf
  have HC := Aside.mk hc
  have b1 := hu.1
  have b2 := ho.1
  clear hu ho hwf hc
  have hfd := fieldTold
  go_enter Tryz.func6, Tryz.ntmps6
  go_wp2_with fail
  refine (serverNew none 0 [] (fun _ => False) _ Row.nil roles0).mono ?_
  rintro e w1 ⟨hb, g0, _, rfl, hs⟩
  have HB1 := Aside.mk hb
  have HS1 := Aside.mk hs
  clear hb hs
  go_wp2_with fail
  refine (doOther g0 _ _ op0 (by decide) none 0 none 0 none 0 _ HS1.out).mono ?_
  rintro e w2 ⟨rfl, hb⟩
  have HB2 := Aside.mk (below_step HB1.out hb)
  clear hb HS1 HB1
  by_cases h0 : roleErr up = 0
  · have H0 := Aside.mk h0
    go_wp2_with fail
    refine (serverNew A c up _ _ (HU.out.below HB2.out) H0.out).mono ?_
    rintro e w3 ⟨hb, ga, hga, rfl, hs⟩
    have HB3 := Aside.mk (below_step HB2.out hb)
    have HGA := Aside.mk (And.intro (Nat.le_trans HB2.out.size hga) hs.lt)
    have HS3 := Aside.mk hs
    have hgn : ga ≠ w3.heap.size := fun e => by have := hs.lt; omega
    clear hb hs hga
    go_wp2_with fail
    refine (refRoles A c up _ _ (HU.out.below HB3.out) b1).mono ?_
    rw [H0.out]
    rintro e w4 ⟨rfl, rfl⟩
    clear h0
    have hal : Below w3.heap.size w3 (w3.alloc (.cells #[.slice A up.length c, .slice none 0 0, .slice none 0 0, .slice none 0 0] 85)) := (Below.refl _ _).alloc (Nat.le_refl _) _
    have hduo : Duo w (w3.alloc (.cells #[.slice A up.length c, .slice none 0 0, .slice none 0 0, .slice none 0 0] 85)) ga w3.heap.size ⟨up, [], [], [], .slice none 0 0⟩ ⟨up, [], [], [], .slice none 0 0⟩ := by
      have hlt := HGA.out.2
      refine ⟨(HS3.out.below hal).more fun k hk _ => ⟨by omega, by omega, by simp [Value.ownBlock], by simp [Value.ownBlock]⟩, ?_, Own.nil _ _ _ _ _, Own.nil _ _ _ _ _, by omega, fun k hk => by simp [Value.ownBlock] at hk, fun k hk => by simp [Value.ownBlock] at hk, fun k hk => by simp [Value.ownBlock] at hk, HGA.out.1, HB3.out.size, below_step HB3.out hal⟩
      exact ⟨A, c, none, 0, none, 0, none, 0, Bk.made w3 [.slice A up.length c, .slice none 0 0, .slice none 0 0, .slice none 0 0] _, ⟨HC.out, ((HU.out.below HB3.out).below hal).mono fun k hk _ => ⟨by have := HGA.out.1; omega, by have := HB3.out.size; omega, by simp [Value.ownBlock], by simp [Value.ownBlock]⟩⟩, ⟨Nat.le_refl _, Row.nil⟩, ⟨Nat.le_refl _, Row.nil⟩, rfl⟩
    have HDUO := Aside.mk hduo
    have HTW : Aside (Twin (⟨up, [], [], [], .slice none 0 0⟩ : Srv) ⟨up, [], [], [], .slice none 0 0⟩ ∧ SrvOk ⟨up, [], [], [], .slice none 0 0⟩) := ⟨⟨rfl, ⟨H0.out, rfl, rfl, Nat.zero_le _⟩⟩⟩
    clear hal hduo
    go_upto_region 11 with fail
    generalize hgb : w3.heap.size = gb at *
    generalize w3.alloc _ = w4 at *
    clear hgb HB3 HS3 HB2
    go_wp2_with fail
    go_loopw [57] (fun i wr => ∃ (k : Nat) (a b : Srv), k ≤ ops.length ∧ i = .int .i64 k ∧ Aside (Duo w wr ga gb a b) ∧ Aside (Twin a b ∧ SrvOk b)) (fun i _ => ops.length - (intOf i).toNat)
    case atStart => exact ⟨0, _, _, Nat.zero_le _, rfl, HDUO, HTW⟩
    case round =>
      obtain ⟨k, a, b, hk, rfl, HD, HT⟩ := hrel
      by_cases hlt : k < ops.length
      · obtain ⟨ad, B1, e1, B2, e2, B3, e3, rfl, hbl, _, hcl, HRW⟩ := op_at5 (HO.out.below HD.out.bel) hlt
        have HWK := Aside.mk (HWF.out _ (List.getElem_mem hlt))
        have p0 : (0 : Int) ≤ (k : Int) := by omega
        have p1 : (k : Int) < (ops.length : Int) := by omega
        generalize ops[k] = o at *
        go_upto_region 14 with fail
        have hal : Below wr.heap.size wr (wr.alloc (.cells (opC o B1 e1 B2 e2 B3 e3).toArray 40)) := (Below.refl _ _).alloc (Nat.le_refl _) _
        have hbk : Bk (wr.alloc (.cells (opC o B1 e1 B2 e2 B3 e3).toArray 40)) wr.heap.size (opC o B1 e1 B2 e2 B3 e3) := Bk.made wr _ _
        have hD8 : Duo w (wr.alloc (.cells (opC o B1 e1 B2 e2 B3 e3).toArray 40)) ga gb a b := HD.out.below hal
        have HRW0 := Aside.mk (show OpR w wr o B1 B2 B3 e1 e2 e3 from OpR.mk HRW.out.1 HRW.out.2.1 HRW.out.2.2.1 HRW.out.2.2.2.1 HRW.out.2.2.2.2.1 HRW.out.2.2.2.2.2)
        have hR8 : OpR w (wr.alloc (.cells (opC o B1 e1 B2 e2 B3 e3).toArray 40)) o B1 B2 B3 e1 e2 e3 := (OpR.mk HRW.out.1 HRW.out.2.1 HRW.out.2.2.1 HRW.out.2.2.2.1 HRW.out.2.2.2.2.1 HRW.out.2.2.2.2.2).at HD.out.bel hD8.bel
        unfold opC at hal hbk hD8 hR8
        have hN : ga < wr.heap.size ∧ gb < wr.heap.size ∧ (∀ k, a.nv.ownBlock = some k → k < wr.heap.size) ∧ (∀ k, b.nv.ownBlock = some k → k < wr.heap.size) := ⟨HD.out.sa.lt, HD.out.sb.lt, fun k hk => (HD.out.na.lt k hk).2, fun k hk => (HD.out.nb.lt k hk).2⟩
        have HN := Aside.mk hN
        generalize wr.alloc _ = W8 at *
        have HSZ8 := Aside.mk hal.size
        have HD8 := Aside.mk hD8
        have HBK8 := Aside.mk (show Bk W8 wr.heap.size (opC o B1 e1 B2 e2 B3 e3) from hbk)
        clear hal hbk hD8 hR8 hcl HRW hN hbl
        generalize hA : Act.mk _ _ = A
        refine region_facts_down (J14 A w ga gb wr.heap.size W8.heap.size a b o B1 e1 B2 e2 B3 e3) (by kernel_rfl) (by kernel_rfl) ?_ ?_ ?_
        · subst hA
          simp only [J14, putP, Act.put, List.setIfInBounds_toArray, List.set_cons_zero, List.set_cons_succ]
          refine ⟨_, _, _, _, _, _, _, _, _, _, _, _, _, _, _, _, _, _, _, _, _, _, _, _, _, _, _, _, _, _, rfl, R14.init (fun j hj => ?_) (HD8.out.below (below_drewN (Below.refl _ _) 1)) (HBK8.out.drewN 1) (Nat.le_refl _)⟩
          rw [Array.getElem?_replicate] at hj
          split at hj <;> simp at hj
        · intro i oo L' x w' ho hsz hLi haft hdn hJ K' hK
          obtain ⟨a1, b1, u61, u62, u63, u64, u65, u66, u67, u68, u69, u70, u71, u72, u73, u74, u75, u76, u77, u78, u79, u80, u81, u82, u83, u84, u85, u86, u87, u88, rfl, hR⟩ := hJ
          have hi := (Array.getElem?_eq_some_iff.1 ho).1
          subst hA
          rcases i with _ | i
          · simp only [List.getElem?_toArray, List.getElem?_cons_succ, List.getElem?_cons_zero, Option.some.injEq] at ho
            subst ho
            rw [if_pos (by rfl)]
            have HK := Aside.mk hK
            clear hK haft hdn hsz hi hLi
            have HRR := Aside.mk hR
            clear hR
            simp only [putP, Act.put, List.setIfInBounds_toArray, List.set_cons_zero, List.set_cons_succ]
            go_simp
            refine HK.out _ _ ?_
            simp only [J14, putP, Act.put, List.setIfInBounds_toArray, List.set_cons_zero, List.set_cons_succ]
            exact ⟨a1, b1, _, u62, u63, u64, u65, u66, u67, u68, u69, u70, u71, u72, u73, u74, u75, u76, u77, u78, u79, u80, u81, u82, u83, u84, u85, u86, u87, u88, rfl, HRR.out.set0 rfl⟩
          rcases i with _ | i
          · simp only [List.getElem?_toArray, List.getElem?_cons_succ, List.getElem?_cons_zero, Option.some.injEq] at ho
            subst ho
            rw [if_pos (by rfl)]
            have HK := Aside.mk hK
            clear hK haft hdn hsz hi hLi
            have hko := ko_of hR.bk
            have HRR := Aside.mk hR
            clear hR
            simp only [putP, Act.put, List.setIfInBounds_toArray, List.set_cons_zero, List.set_cons_succ]
            go_simp
            refine HK.out _ _ ?_
            simp only [J14, putP, Act.put, List.setIfInBounds_toArray, List.set_cons_zero, List.set_cons_succ]
            exact ⟨a1, b1, u61, _, u63, u64, u65, u66, u67, u68, u69, u70, u71, u72, u73, u74, u75, u76, u77, u78, u79, u80, u81, u82, u83, u84, u85, u86, u87, u88, rfl, HRR.out.set1 rfl⟩
          rcases i with _ | i
          · have hsj := Nat.lt_of_lt_of_eq hi hsz.symm
            have hno : ∀ j, 5 ≤ j → L'[j]? ≠ some true := no_late hdn hLi hsz (by kernel_rfl)
            simp only [List.getElem?_toArray, List.getElem?_cons_succ, List.getElem?_cons_zero, Option.some.injEq] at ho
            subst ho
            obtain rfl := hR.f0 (haft { on := 0, ground := .data } (by simp) rfl)
            obtain rfl := hR.f1 (haft { on := 1, ground := .data } (by simp) rfl)
            rw [if_pos (by rfl)]
            obtain rfl := hR.za (by rw [hLi]; simp)
            obtain rfl := hR.zb (hno 5 (by decide))
            have HK := Aside.mk hK
            clear hK haft hdn hsz hi hLi
            have HRR := Aside.mk hR
            clear hR
            simp only [putP, Act.put, List.setIfInBounds_toArray, List.set_cons_zero, List.set_cons_succ]
            go_simp
            refine (callA HRR.out.duo HT.out.1 HT.out.2 (HRW0.out.at HD.out.bel HRR.out.duo.bel)).mono ?_
            rintro e w2 hd
            obtain ⟨P1, p1', P2, p2', P3, p3', a', rfl, tx, hd2, ht2, hc⟩ := stepA HRR.out.duo HT.out.1 hd
            clear hd
            refine HK.out _ _ ?_
            simp only [J14, putP, Act.put, List.setIfInBounds_toArray, List.set_cons_zero, List.set_cons_succ]
            exact ⟨a', _, _, _, _, u64, u65, u66, u67, u68, u69, u70, u71, u72, u73, u74, u75, u76, u77, u78, u79, u80, u81, u82, u83, u84, u85, u86, u87, u88, rfl, HRR.out.set2 hsj hno hd2 (box_chg HRR.out.bk HN.out.1 HN.out.2.2.1 hc) (Nat.le_trans HRR.out.nn hc.size) ht2 ⟨P1, p1', P2, p2', P3, p3', rfl, tx.mono HRR.out.nn⟩⟩
          rcases i with _ | i
          · simp only [List.getElem?_toArray, List.getElem?_cons_succ, List.getElem?_cons_zero, Option.some.injEq] at ho
            subst ho
            rw [if_pos (by rfl)]
            have HK := Aside.mk hK
            clear hK haft hdn hsz hi hLi
            have HRR := Aside.mk hR
            clear hR
            simp only [putP, Act.put, List.setIfInBounds_toArray, List.set_cons_zero, List.set_cons_succ]
            go_simp
            refine HK.out _ _ ?_
            simp only [J14, putP, Act.put, List.setIfInBounds_toArray, List.set_cons_zero, List.set_cons_succ]
            exact ⟨a1, b1, u61, u62, u63, _, u65, u66, u67, u68, u69, u70, u71, u72, u73, u74, u75, u76, u77, u78, u79, u80, u81, u82, u83, u84, u85, u86, u87, u88, rfl, HRR.out.set3 rfl⟩
          rcases i with _ | i
          · simp only [List.getElem?_toArray, List.getElem?_cons_succ, List.getElem?_cons_zero, Option.some.injEq] at ho
            subst ho
            rw [if_pos (by rfl)]
            have HK := Aside.mk hK
            clear hK haft hdn hsz hi hLi
            have hko := ko_of hR.bk
            have HRR := Aside.mk hR
            clear hR
            simp only [putP, Act.put, List.setIfInBounds_toArray, List.set_cons_zero, List.set_cons_succ]
            go_simp
            refine HK.out _ _ ?_
            simp only [J14, putP, Act.put, List.setIfInBounds_toArray, List.set_cons_zero, List.set_cons_succ]
            exact ⟨a1, b1, u61, u62, u63, u64, _, u66, u67, u68, u69, u70, u71, u72, u73, u74, u75, u76, u77, u78, u79, u80, u81, u82, u83, u84, u85, u86, u87, u88, rfl, HRR.out.set4 rfl⟩
          rcases i with _ | i
          · have hsj := Nat.lt_of_lt_of_eq hi hsz.symm
            have hno : ∀ j, 6 ≤ j → L'[j]? ≠ some true := no_late hdn hLi hsz (by kernel_rfl)
            have h2t : L'[2]? = some true := hdn.need ho haft (by kernel_rfl)
            simp only [List.getElem?_toArray, List.getElem?_cons_succ, List.getElem?_cons_zero, Option.some.injEq] at ho
            subst ho
            obtain rfl := hR.f3 (haft { on := 3, ground := .data } (by simp) rfl)
            obtain rfl := hR.f4 (haft { on := 4, ground := .data } (by simp) rfl)
            rw [if_pos (by rfl)]
            obtain rfl := hR.zb (by rw [hLi]; simp)
            have h63 := hR.f2 h2t
            have HK := Aside.mk hK
            clear hK haft hdn hsz hi hLi
            have HRR := Aside.mk hR
            clear hR
            simp only [putP, Act.put, List.setIfInBounds_toArray, List.set_cons_zero, List.set_cons_succ]
            go_simp
            refine (callB HRR.out.duo HT.out.2 (HRW0.out.at HD.out.bel HRR.out.duo.bel) HWK.out).mono ?_
            rintro e w2 hd
            obtain ⟨P1, p1', P2, p2', P3, p3', b', rfl, tx, hd2, ht2, hc⟩ := stepB HRR.out.duo hd
            clear hd
            refine HK.out _ _ ?_
            simp only [J14, putP, Act.put, List.setIfInBounds_toArray, List.set_cons_zero, List.set_cons_succ]
            exact ⟨a1, b', u61, u62, u63, _, _, _, u67, u68, u69, u70, u71, u72, u73, u74, u75, u76, u77, u78, u79, u80, u81, u82, u83, u84, u85, u86, u87, u88, rfl, HRR.out.set5 hsj hno hd2 (box_chg HRR.out.bk HN.out.2.1 HN.out.2.2.2 hc) (Nat.le_trans HRR.out.nn hc.size) ht2 (h63.chg hc fun k e => e.elim (fun e => Nat.lt_of_lt_of_le (e ▸ HN.out.2.1) HSZ8.out) fun e => Nat.lt_of_lt_of_le (HN.out.2.2.2 k e) HSZ8.out) ⟨P1, p1', P2, p2', P3, p3', rfl, tx⟩⟩
          rcases i with _ | i
          · have h2t : L'[2]? = some true := hdn.need ho haft (by kernel_rfl)
            simp only [List.getElem?_toArray, List.getElem?_cons_succ, List.getElem?_cons_zero, Option.some.injEq] at ho
            subst ho
            rw [if_pos (by rfl)]
            obtain ⟨P1, p1', P2, p2', P3, p3', rfl, hA⟩ := hR.f2 h2t
            obtain ⟨Q1, q1', Q2, q2', Q3, q3', rfl, hB⟩ := hR.f5 (haft { on := 5, ground := .data } (by simp) rfl)
            have HRR := Aside.mk hR
            clear hR
            unfold toldC
            have HK := Aside.mk hK
            clear hK haft hdn hsz hi hLi
            simp only [putP, Act.put, List.setIfInBounds_toArray, List.set_cons_zero, List.set_cons_succ]
            go_simp
            refine (sameTold (doS b o).2 P1 P2 P3 Q1 Q2 Q3 p1' p2' p3' q1' q2' q3' _ hA.tx hB).mono ?_
            rintro e w2 ⟨rfl, hb⟩
            refine HK.out _ _ ?_
            simp only [J14, putP, Act.put, List.setIfInBounds_toArray, List.set_cons_zero, List.set_cons_succ]
            exact ⟨a1, b1, u61, u62, _, u64, u65, _, _, u68, u69, u70, u71, u72, u73, u74, u75, u76, u77, u78, u79, u80, u81, u82, u83, u84, u85, u86, u87, u88, rfl, (HRR.out.below hb).set6 rfl⟩
          rcases i with _ | i
          · simp only [List.getElem?_toArray, List.getElem?_cons_succ, List.getElem?_cons_zero, Option.some.injEq] at ho
            subst ho
            obtain rfl := hR.f6 (haft { on := 6, ground := .data } (by simp) rfl)
            rw [if_pos (by rfl)]
            have HK := Aside.mk hK
            clear hK haft hdn hsz hi hLi
            have HRR := Aside.mk hR
            clear hR
            simp only [putP, Act.put, List.setIfInBounds_toArray, List.set_cons_zero, List.set_cons_succ]
            go_simp
            refine HK.out _ _ ?_
            simp only [J14, putP, Act.put, List.setIfInBounds_toArray, List.set_cons_zero, List.set_cons_succ]
            exact ⟨a1, b1, u61, u62, u63, u64, u65, u66, _, _, u69, u70, u71, u72, u73, u74, u75, u76, u77, u78, u79, u80, u81, u82, u83, u84, u85, u86, u87, u88, rfl, HRR.out.set7 rfl⟩
          rcases i with _ | i
          · simp only [List.getElem?_toArray, List.getElem?_cons_succ, List.getElem?_cons_zero, Option.some.injEq] at ho
            subst ho
            obtain rfl := hR.f7 (haft { on := 7, ground := .data } (by simp) rfl)
            rw [if_pos (by rfl)]
            have HK := Aside.mk hK
            clear hK haft hdn hsz hi hLi
            have HRR := Aside.mk hR
            clear hR
            simp only [putP, Act.put, List.setIfInBounds_toArray, List.set_cons_zero, List.set_cons_succ]
            go_simp
            refine HK.out _ _ ?_
            simp only [J14, putP, Act.put, List.setIfInBounds_toArray, List.set_cons_zero, List.set_cons_succ]
            exact ⟨a1, b1, u61, u62, u63, u64, u65, u66, u67, _, _, u70, u71, u72, u73, u74, u75, u76, u77, u78, u79, u80, u81, u82, u83, u84, u85, u86, u87, u88, rfl, HRR.out.set8 rfl⟩
          rcases i with _ | i
          · simp only [List.getElem?_toArray, List.getElem?_cons_succ, List.getElem?_cons_zero, Option.some.injEq] at ho
            subst ho
            obtain rfl := hR.f8 (haft { on := 8, ground := .guard } (by simp) rfl)
            have HK := Aside.mk hK
            clear hK haft hdn hsz hi hLi
            have HRR := Aside.mk hR
            clear hR
            simp only [putP, Act.put, List.setIfInBounds_toArray, List.set_cons_zero, List.set_cons_succ]
            rw [if_pos (wanted_at rfl (by rfl) rfl (by rfl))]
            go_simp
            refine HK.out _ _ ?_
            simp only [J14, putP, Act.put, List.setIfInBounds_toArray, List.set_cons_zero, List.set_cons_succ]
            exact ⟨a1, b1, u61, u62, u63, u64, u65, u66, u67, u68, _, _, u71, u72, u73, u74, u75, u76, u77, u78, u79, u80, u81, u82, u83, u84, u85, u86, u87, u88, rfl, HRR.out.set9 rfl⟩
          rcases i with _ | i
          · have h2t : L'[2]? = some true := hdn.need ho haft (by kernel_rfl)
            have h5t : L'[5]? = some true := hdn.need ho haft (by kernel_rfl)
            simp only [List.getElem?_toArray, List.getElem?_cons_succ, List.getElem?_cons_zero, Option.some.injEq] at ho
            subst ho
            obtain rfl := hR.f8 (haft { on := 8, ground := .guard } (by simp) rfl)
            obtain rfl := hR.f9 (haft { on := 9, ground := .data } (by simp) rfl)
            have htw := (hR.ta h2t).both (hR.tb h5t)
            have hok1 := SrvOk.twin (hR.ta h2t) (doS_ok HT.out.2)
            have HTW1 := Aside.mk (And.intro htw hok1)
            clear htw hok1
            have HK := Aside.mk hK
            clear hK haft hdn hsz hi hLi
            have HRR := Aside.mk hR
            clear hR
            simp only [putP, Act.put, List.setIfInBounds_toArray, List.set_cons_zero, List.set_cons_succ]
            rw [if_pos (wanted_at rfl (by rfl) rfl (by rfl))]
            go_simp
            refine (serverRules ga _ a1 _ HRR.out.duo.sa (by have := (rules_ok HTW1.out.2.rules).1; omega)).mono ?_
            rintro e w2 ⟨v, rfl, hv, hb⟩
            refine HK.out _ _ ?_
            simp only [J14, putP, Act.put, List.setIfInBounds_toArray, List.set_cons_zero, List.set_cons_succ]
            exact ⟨a1, b1, u61, u62, u63, u64, u65, u66, u67, u68, _, _, _, u72, u73, u74, u75, u76, u77, u78, u79, u80, u81, u82, u83, u84, u85, u86, u87, u88, rfl, (HRR.out.below hb).set10 (rulA_of hv HTW1.out.1.of.2.1)⟩
          rcases i with _ | i
          · simp only [List.getElem?_toArray, List.getElem?_cons_succ, List.getElem?_cons_zero, Option.some.injEq] at ho
            subst ho
            obtain rfl := hR.f8 (haft { on := 8, ground := .guard } (by simp) rfl)
            have HK := Aside.mk hK
            clear hK haft hdn hsz hi hLi
            have HRR := Aside.mk hR
            clear hR
            simp only [putP, Act.put, List.setIfInBounds_toArray, List.set_cons_zero, List.set_cons_succ]
            rw [if_pos (wanted_at rfl (by rfl) rfl (by rfl))]
            go_simp
            refine HK.out _ _ ?_
            simp only [J14, putP, Act.put, List.setIfInBounds_toArray, List.set_cons_zero, List.set_cons_succ]
            exact ⟨a1, b1, u61, u62, u63, u64, u65, u66, u67, u68, _, u70, u71, _, u73, u74, u75, u76, u77, u78, u79, u80, u81, u82, u83, u84, u85, u86, u87, u88, rfl, HRR.out.set11 rfl⟩
          rcases i with _ | i
          · simp only [List.getElem?_toArray, List.getElem?_cons_succ, List.getElem?_cons_zero, Option.some.injEq] at ho
            subst ho
            obtain rfl := hR.f8 (haft { on := 8, ground := .guard } (by simp) rfl)
            obtain rfl := hR.f11 (haft { on := 11, ground := .data } (by simp) rfl)
            have HK := Aside.mk hK
            clear hK haft hdn hsz hi hLi
            have HRR := Aside.mk hR
            clear hR
            simp only [putP, Act.put, List.setIfInBounds_toArray, List.set_cons_zero, List.set_cons_succ]
            rw [if_pos (wanted_at rfl (by rfl) rfl (by rfl))]
            go_simp
            refine HK.out _ _ ?_
            simp only [J14, putP, Act.put, List.setIfInBounds_toArray, List.set_cons_zero, List.set_cons_succ]
            exact ⟨a1, b1, u61, u62, u63, u64, u65, u66, u67, u68, _, u70, u71, _, _, u74, u75, u76, u77, u78, u79, u80, u81, u82, u83, u84, u85, u86, u87, u88, rfl, HRR.out.set12 rfl⟩
          rcases i with _ | i
          · simp only [List.getElem?_toArray, List.getElem?_cons_succ, List.getElem?_cons_zero, Option.some.injEq] at ho
            subst ho
            obtain rfl := hR.f8 (haft { on := 8, ground := .guard } (by simp) rfl)
            obtain rfl := hR.f12 (haft { on := 12, ground := .data } (by simp) rfl)
            have HK := Aside.mk hK
            clear hK haft hdn hsz hi hLi
            have HRR := Aside.mk hR
            clear hR
            simp only [putP, Act.put, List.setIfInBounds_toArray, List.set_cons_zero, List.set_cons_succ]
            rw [if_pos (wanted_at rfl (by rfl) rfl (by rfl))]
            go_simp
            refine HK.out _ _ ?_
            simp only [J14, putP, Act.put, List.setIfInBounds_toArray, List.set_cons_zero, List.set_cons_succ]
            exact ⟨a1, b1, u61, u62, u63, u64, u65, u66, u67, u68, _, u70, u71, u72, _, _, u75, u76, u77, u78, u79, u80, u81, u82, u83, u84, u85, u86, u87, u88, rfl, HRR.out.set13 rfl⟩
          rcases i with _ | i
          · simp only [List.getElem?_toArray, List.getElem?_cons_succ, List.getElem?_cons_zero, Option.some.injEq] at ho
            subst ho
            obtain rfl := hR.f8 (haft { on := 8, ground := .guard } (by simp) rfl)
            obtain rfl := hR.f13 (haft { on := 13, ground := .data } (by simp) rfl)
            have hrf := hR.duo.refR
            have hq := hrf.choose_spec
            generalize hrf.choose = vr at hq
            have qr := hq.1
            have HQ := Aside.mk hq.2
            clear hrf hq
            have HK := Aside.mk hK
            clear hK haft hdn hsz hi hLi
            have HRR := Aside.mk hR
            clear hR
            simp only [putP, Act.put, List.setIfInBounds_toArray, List.set_cons_zero, List.set_cons_succ]
            rw [if_pos (wanted_at rfl (by rfl) rfl (by rfl))]
            go_simp
            refine HK.out _ _ ?_
            simp only [J14, putP, Act.put, List.setIfInBounds_toArray, List.set_cons_zero, List.set_cons_succ]
            exact ⟨a1, b1, u61, u62, u63, u64, u65, u66, u67, u68, _, u70, u71, u72, u73, _, _, u76, u77, u78, u79, u80, u81, u82, u83, u84, u85, u86, u87, u88, rfl, HRR.out.set14 HQ.out⟩
          rcases i with _ | i
          · simp only [List.getElem?_toArray, List.getElem?_cons_succ, List.getElem?_cons_zero, Option.some.injEq] at ho
            subst ho
            obtain rfl := hR.f8 (haft { on := 8, ground := .guard } (by simp) rfl)
            have hq1 := Aside.mk (hR.f10 (haft { on := 10, ground := .data } (by simp) rfl))
            have hq2 := Aside.mk (hR.f14 (haft { on := 14, ground := .data } (by simp) rfl))
            have HK := Aside.mk hK
            clear hK haft hdn hsz hi hLi
            have HRR := Aside.mk hR
            clear hR
            simp only [putP, Act.put, List.setIfInBounds_toArray, List.set_cons_zero, List.set_cons_succ]
            rw [if_pos (wanted_at rfl (by rfl) rfl (by rfl))]
            obtain ⟨V1, v1, rfl, h1⟩ := hq1.out
            obtain ⟨V2, v2, rfl, h2⟩ := hq2.out
            have H12 := Aside.mk (And.intro h1 h2)
            clear h1 h2
            go_simp
            refine (equalR V1 V2 v1 v2 b1.rules b1.rules _ _ _ H12.out.1 H12.out.2).mono ?_
            rw [decide_eq_true rfl]
            rintro e w2 ⟨rfl, hdr⟩
            refine HK.out _ _ ?_
            simp only [J14, putP, Act.put, List.setIfInBounds_toArray, List.set_cons_zero, List.set_cons_succ]
            exact ⟨a1, b1, u61, u62, u63, u64, u65, u66, u67, u68, _, u70, _, u72, u73, u74, _, _, u77, u78, u79, u80, u81, u82, u83, u84, u85, u86, u87, u88, rfl, (HRR.out.below hdr.below).set15 rfl⟩
          rcases i with _ | i
          · simp only [List.getElem?_toArray, List.getElem?_cons_succ, List.getElem?_cons_zero, Option.some.injEq] at ho
            subst ho
            obtain rfl := hR.f8 (haft { on := 8, ground := .guard } (by simp) rfl)
            obtain rfl := hR.f15 (haft { on := 15, ground := .data } (by simp) rfl)
            have HK := Aside.mk hK
            clear hK haft hdn hsz hi hLi
            have HRR := Aside.mk hR
            clear hR
            simp only [putP, Act.put, List.setIfInBounds_toArray, List.set_cons_zero, List.set_cons_succ]
            rw [if_pos (wanted_at rfl (by rfl) rfl (by rfl))]
            go_simp
            refine HK.out _ _ ?_
            simp only [J14, putP, Act.put, List.setIfInBounds_toArray, List.set_cons_zero, List.set_cons_succ]
            exact ⟨a1, b1, u61, u62, u63, u64, u65, u66, u67, u68, _, u70, u71, u72, u73, u74, u75, _, _, u78, u79, u80, u81, u82, u83, u84, u85, u86, u87, u88, rfl, HRR.out.set16 rfl⟩
          rcases i with _ | i
          · simp only [List.getElem?_toArray, List.getElem?_cons_succ, List.getElem?_cons_zero, Option.some.injEq] at ho
            subst ho
            obtain rfl := hR.f8 (haft { on := 8, ground := .data } (by simp) rfl)
            obtain rfl := hR.f16 (haft { on := 16, ground := .data } (by simp) rfl)
            rw [if_pos (by rfl)]
            have HK := Aside.mk hK
            clear hK haft hdn hsz hi hLi
            have HRR := Aside.mk hR
            clear hR
            simp only [putP, Act.put, List.setIfInBounds_toArray, List.set_cons_zero, List.set_cons_succ]
            go_simp
            refine HK.out _ _ ?_
            simp only [J14, putP, Act.put, List.setIfInBounds_toArray, List.set_cons_zero, List.set_cons_succ]
            exact ⟨a1, b1, u61, u62, u63, u64, u65, u66, u67, u68, _, u70, u71, u72, u73, u74, u75, u76, _, _, u79, u80, u81, u82, u83, u84, u85, u86, u87, u88, rfl, HRR.out.set17 rfl⟩
          rcases i with _ | i
          · simp only [List.getElem?_toArray, List.getElem?_cons_succ, List.getElem?_cons_zero, Option.some.injEq] at ho
            subst ho
            obtain rfl := hR.f17 (haft { on := 17, ground := .data } (by simp) rfl)
            rw [if_pos (by rfl)]
            have HK := Aside.mk hK
            clear hK haft hdn hsz hi hLi
            have HRR := Aside.mk hR
            clear hR
            simp only [putP, Act.put, List.setIfInBounds_toArray, List.set_cons_zero, List.set_cons_succ]
            go_simp
            refine HK.out _ _ ?_
            simp only [J14, putP, Act.put, List.setIfInBounds_toArray, List.set_cons_zero, List.set_cons_succ]
            exact ⟨a1, b1, u61, u62, u63, u64, u65, u66, u67, u68, u69, u70, u71, u72, u73, u74, u75, u76, u77, _, _, u80, u81, u82, u83, u84, u85, u86, u87, u88, rfl, HRR.out.set18 rfl⟩
          rcases i with _ | i
          · simp only [List.getElem?_toArray, List.getElem?_cons_succ, List.getElem?_cons_zero, Option.some.injEq] at ho
            subst ho
            obtain rfl := hR.f18 (haft { on := 18, ground := .guard } (by simp) rfl)
            have HK := Aside.mk hK
            clear hK haft hdn hsz hi hLi
            have HRR := Aside.mk hR
            clear hR
            simp only [putP, Act.put, List.setIfInBounds_toArray, List.set_cons_zero, List.set_cons_succ]
            rw [if_pos (wanted_at rfl (by rfl) rfl (by rfl))]
            go_simp
            refine HK.out _ _ ?_
            simp only [J14, putP, Act.put, List.setIfInBounds_toArray, List.set_cons_zero, List.set_cons_succ]
            exact ⟨a1, b1, u61, u62, u63, u64, u65, u66, u67, u68, u69, u70, u71, u72, u73, u74, u75, u76, u77, u78, _, _, u81, u82, u83, u84, u85, u86, u87, u88, rfl, HRR.out.set19 rfl⟩
          rcases i with _ | i
          · have h2t : L'[2]? = some true := hdn.need ho haft (by kernel_rfl)
            have h5t : L'[5]? = some true := hdn.need ho haft (by kernel_rfl)
            simp only [List.getElem?_toArray, List.getElem?_cons_succ, List.getElem?_cons_zero, Option.some.injEq] at ho
            subst ho
            obtain rfl := hR.f18 (haft { on := 18, ground := .guard } (by simp) rfl)
            obtain rfl := hR.f19 (haft { on := 19, ground := .data } (by simp) rfl)
            have htw := (hR.ta h2t).both (hR.tb h5t)
            have hok1 := SrvOk.twin (hR.ta h2t) (doS_ok HT.out.2)
            have HTW1 := Aside.mk (And.intro htw hok1)
            clear htw hok1
            have HK := Aside.mk hK
            clear hK haft hdn hsz hi hLi
            have HRR := Aside.mk hR
            clear hR
            simp only [putP, Act.put, List.setIfInBounds_toArray, List.set_cons_zero, List.set_cons_succ]
            rw [if_pos (wanted_at rfl (by rfl) rfl (by rfl))]
            go_simp
            refine (serverVersions ga _ a1 _ HRR.out.duo.sa HTW1.out.2.st).mono ?_
            rintro e w2 ⟨v, rfl, hv, hb⟩
            refine HK.out _ _ ?_
            simp only [J14, putP, Act.put, List.setIfInBounds_toArray, List.set_cons_zero, List.set_cons_succ]
            exact ⟨a1, b1, u61, u62, u63, u64, u65, u66, u67, u68, u69, u70, u71, u72, u73, u74, u75, u76, u77, u78, _, _, _, u82, u83, u84, u85, u86, u87, u88, rfl, (HRR.out.below hb).set20 (verA_of hv HTW1.out.1.of.2.2.1)⟩
          rcases i with _ | i
          · simp only [List.getElem?_toArray, List.getElem?_cons_succ, List.getElem?_cons_zero, Option.some.injEq] at ho
            subst ho
            obtain rfl := hR.f18 (haft { on := 18, ground := .guard } (by simp) rfl)
            have HK := Aside.mk hK
            clear hK haft hdn hsz hi hLi
            have HRR := Aside.mk hR
            clear hR
            simp only [putP, Act.put, List.setIfInBounds_toArray, List.set_cons_zero, List.set_cons_succ]
            rw [if_pos (wanted_at rfl (by rfl) rfl (by rfl))]
            go_simp
            refine HK.out _ _ ?_
            simp only [J14, putP, Act.put, List.setIfInBounds_toArray, List.set_cons_zero, List.set_cons_succ]
            exact ⟨a1, b1, u61, u62, u63, u64, u65, u66, u67, u68, u69, u70, u71, u72, u73, u74, u75, u76, u77, u78, _, u80, u81, _, u83, u84, u85, u86, u87, u88, rfl, HRR.out.set21 rfl⟩
          rcases i with _ | i
          · simp only [List.getElem?_toArray, List.getElem?_cons_succ, List.getElem?_cons_zero, Option.some.injEq] at ho
            subst ho
            obtain rfl := hR.f18 (haft { on := 18, ground := .guard } (by simp) rfl)
            obtain rfl := hR.f21 (haft { on := 21, ground := .data } (by simp) rfl)
            have HK := Aside.mk hK
            clear hK haft hdn hsz hi hLi
            have HRR := Aside.mk hR
            clear hR
            simp only [putP, Act.put, List.setIfInBounds_toArray, List.set_cons_zero, List.set_cons_succ]
            rw [if_pos (wanted_at rfl (by rfl) rfl (by rfl))]
            go_simp
            refine HK.out _ _ ?_
            simp only [J14, putP, Act.put, List.setIfInBounds_toArray, List.set_cons_zero, List.set_cons_succ]
            exact ⟨a1, b1, u61, u62, u63, u64, u65, u66, u67, u68, u69, u70, u71, u72, u73, u74, u75, u76, u77, u78, _, u80, u81, _, _, u84, u85, u86, u87, u88, rfl, HRR.out.set22 rfl⟩
          rcases i with _ | i
          · simp only [List.getElem?_toArray, List.getElem?_cons_succ, List.getElem?_cons_zero, Option.some.injEq] at ho
            subst ho
            obtain rfl := hR.f18 (haft { on := 18, ground := .guard } (by simp) rfl)
            obtain rfl := hR.f22 (haft { on := 22, ground := .data } (by simp) rfl)
            have HK := Aside.mk hK
            clear hK haft hdn hsz hi hLi
            have HRR := Aside.mk hR
            clear hR
            simp only [putP, Act.put, List.setIfInBounds_toArray, List.set_cons_zero, List.set_cons_succ]
            rw [if_pos (wanted_at rfl (by rfl) rfl (by rfl))]
            go_simp
            refine HK.out _ _ ?_
            simp only [J14, putP, Act.put, List.setIfInBounds_toArray, List.set_cons_zero, List.set_cons_succ]
            exact ⟨a1, b1, u61, u62, u63, u64, u65, u66, u67, u68, u69, u70, u71, u72, u73, u74, u75, u76, u77, u78, _, u80, u81, u82, _, _, u85, u86, u87, u88, rfl, HRR.out.set23 rfl⟩
          rcases i with _ | i
          · simp only [List.getElem?_toArray, List.getElem?_cons_succ, List.getElem?_cons_zero, Option.some.injEq] at ho
            subst ho
            obtain rfl := hR.f18 (haft { on := 18, ground := .guard } (by simp) rfl)
            obtain rfl := hR.f23 (haft { on := 23, ground := .data } (by simp) rfl)
            have hrf := hR.duo.refV
            have hq := hrf.choose_spec
            generalize hrf.choose = vr at hq
            have qr := hq.1
            have HQ := Aside.mk hq.2
            clear hrf hq
            have HK := Aside.mk hK
            clear hK haft hdn hsz hi hLi
            have HRR := Aside.mk hR
            clear hR
            simp only [putP, Act.put, List.setIfInBounds_toArray, List.set_cons_zero, List.set_cons_succ]
            rw [if_pos (wanted_at rfl (by rfl) rfl (by rfl))]
            go_simp
            refine HK.out _ _ ?_
            simp only [J14, putP, Act.put, List.setIfInBounds_toArray, List.set_cons_zero, List.set_cons_succ]
            exact ⟨a1, b1, u61, u62, u63, u64, u65, u66, u67, u68, u69, u70, u71, u72, u73, u74, u75, u76, u77, u78, _, u80, u81, u82, u83, _, _, u86, u87, u88, rfl, HRR.out.set24 HQ.out⟩
          rcases i with _ | i
          · simp only [List.getElem?_toArray, List.getElem?_cons_succ, List.getElem?_cons_zero, Option.some.injEq] at ho
            subst ho
            obtain rfl := hR.f18 (haft { on := 18, ground := .guard } (by simp) rfl)
            have hq1 := Aside.mk (hR.f20 (haft { on := 20, ground := .data } (by simp) rfl))
            have hq2 := Aside.mk (hR.f24 (haft { on := 24, ground := .data } (by simp) rfl))
            have HK := Aside.mk hK
            clear hK haft hdn hsz hi hLi
            have HRR := Aside.mk hR
            clear hR
            simp only [putP, Act.put, List.setIfInBounds_toArray, List.set_cons_zero, List.set_cons_succ]
            rw [if_pos (wanted_at rfl (by rfl) rfl (by rfl))]
            obtain ⟨V1, v1, rfl, h1⟩ := hq1.out
            obtain ⟨V2, v2, rfl, h2⟩ := hq2.out
            have H12 := Aside.mk (And.intro h1 h2)
            clear h1 h2
            go_simp
            refine (refSameStore V1 V2 _ _ v1 v2 b1.l b1.l _ _ _ H12.out.1 H12.out.2 rfl rfl).mono ?_
            rw [decide_eq_true rfl]
            rintro e w2 ⟨rfl, hb⟩
            refine HK.out _ _ ?_
            simp only [J14, putP, Act.put, List.setIfInBounds_toArray, List.set_cons_zero, List.set_cons_succ]
            exact ⟨a1, b1, u61, u62, u63, u64, u65, u66, u67, u68, u69, u70, u71, u72, u73, u74, u75, u76, u77, u78, _, u80, _, u82, u83, u84, _, _, u87, u88, rfl, (HRR.out.below hb).set25 rfl⟩
          rcases i with _ | i
          · simp only [List.getElem?_toArray, List.getElem?_cons_succ, List.getElem?_cons_zero, Option.some.injEq] at ho
            subst ho
            obtain rfl := hR.f18 (haft { on := 18, ground := .guard } (by simp) rfl)
            obtain rfl := hR.f25 (haft { on := 25, ground := .data } (by simp) rfl)
            have HK := Aside.mk hK
            clear hK haft hdn hsz hi hLi
            have HRR := Aside.mk hR
            clear hR
            simp only [putP, Act.put, List.setIfInBounds_toArray, List.set_cons_zero, List.set_cons_succ]
            rw [if_pos (wanted_at rfl (by rfl) rfl (by rfl))]
            go_simp
            refine HK.out _ _ ?_
            simp only [J14, putP, Act.put, List.setIfInBounds_toArray, List.set_cons_zero, List.set_cons_succ]
            exact ⟨a1, b1, u61, u62, u63, u64, u65, u66, u67, u68, u69, u70, u71, u72, u73, u74, u75, u76, u77, u78, _, u80, u81, u82, u83, u84, u85, _, _, u88, rfl, HRR.out.set26 rfl⟩
          rcases i with _ | i
          · simp only [List.getElem?_toArray, List.getElem?_cons_succ, List.getElem?_cons_zero, Option.some.injEq] at ho
            subst ho
            obtain rfl := hR.f18 (haft { on := 18, ground := .data } (by simp) rfl)
            obtain rfl := hR.f26 (haft { on := 26, ground := .data } (by simp) rfl)
            rw [if_pos (by rfl)]
            have HK := Aside.mk hK
            clear hK haft hdn hsz hi hLi
            have HRR := Aside.mk hR
            clear hR
            simp only [putP, Act.put, List.setIfInBounds_toArray, List.set_cons_zero, List.set_cons_succ]
            go_simp
            refine HK.out _ _ ?_
            simp only [J14, putP, Act.put, List.setIfInBounds_toArray, List.set_cons_zero, List.set_cons_succ]
            exact ⟨a1, b1, u61, u62, u63, u64, u65, u66, u67, u68, u69, u70, u71, u72, u73, u74, u75, u76, u77, u78, _, u80, u81, u82, u83, u84, u85, u86, _, _, rfl, HRR.out.set27 rfl⟩
          exact absurd ho (by simp)
        · intro L' x w' hall hJ
          obtain ⟨a1, b1, u61, u62, u63, u64, u65, u66, u67, u68, u69, u70, u71, u72, u73, u74, u75, u76, u77, u78, u79, u80, u81, u82, u83, u84, u85, u86, u87, u88, rfl, hR⟩ := hJ
          obtain rfl := hR.f27 (hall 27 (show 27 < 28 by decide))
          have HT2 := Aside.mk (And.intro ((hR.ta (hall 2 (show 2 < 28 by decide))).both (hR.tb (hall 5 (show 5 < 28 by decide)))) (SrvOk.twin (hR.tb (hall 5 (show 5 < 28 by decide))) (doS_ok HT.out.2)))
          have HDE := Aside.mk hR.duo
          clear hR hall
          subst hA
          simp only [putP, Act.put, List.setIfInBounds_toArray, List.set_cons_zero, List.set_cons_succ]
          go_wp2_with fail
          exact ⟨⟨k + 1, a1, b1, by omega, by go_num, HDE, HT2⟩, by simp [intOf]; omega⟩
      · obtain rfl : k = ops.length := by omega
        go_wp2_with fail
        go_ret
        exact ⟨rfl, HD.out.bel⟩
  · have g0' : (roleErr up != 0) = true := by simp [h0]
    have HN := Aside.mk h0
    clear h0
    go_wp2_with fail
    refine (serverNew_bad A c up _ _ (HU.out.below HB2.out) HN.out).mono ?_
    rintro e w3 ⟨hb, rfl⟩
    have HB3 := Aside.mk (below_step HB2.out hb)
    clear hb
    go_wp2_with fail
    refine (refRoles A c up _ _ (HU.out.below HB3.out) b1).mono ?_
    rintro e w4 ⟨rfl, rfl⟩
    go_wp2_with fail
    go_ret
    exact ⟨by simp, HB3.out⟩
end Go.Proofs.WK
