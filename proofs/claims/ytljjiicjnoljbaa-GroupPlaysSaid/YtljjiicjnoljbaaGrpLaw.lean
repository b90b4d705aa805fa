/-
  GroupPlays, walked.
-/
import Derived.Test.YtljjiicjnoljbaaGrpQ
namespace Go.Proofs.WK
open Go.RowKit Rp
variable {w : World}
def atV (l : List Int) (k : Nat) : Int := l[k]?.getD 0
theorem sl_form {α : Type} {d : Rp α} {W : World} {ok : Nat → Prop} {v : Value} {xs : List α} (h : d.Sl W ok v xs) : ∃ A c, v = .slice A xs.length c ∧ xs.length ≤ c ∧ d.Row W ok A xs := h
set_option maxHeartbeats 16000000 in
set_option maxRecDepth 100000 in
theorem groupPlaysL (n : Int) (LA : Option Addr) (LC : Nat) (L : List (List Int)) (TA : Option Addr) (TC : Nat) (T : List ByteArray) (ok ok' : Nat → Prop) (hL : (slice int).Row w ok LA L) (hT : str.Row w ok' TA T) (hTC : T.length ≤ TC) :
    Calls Try.prog 7 #[.int .i64 n, .slice LA L.length LC, .slice TA T.length TC] w fun e w' => e = .returned (.bool true) ∧ Below w.heap.size w w' := by
  have HL := Aside.mk hL
  have HT := Aside.mk (And.intro hT hTC)
  clear hL hT hTC
  have HN1 := Aside.mk (groupNew 1 (by decide) (by decide) w)
  by_cases hn : n < 1 ∨ 5 < n
  · have HNB := Aside.mk (fun W => groupNewBad n hn W)
    have g0 : (decide (n < 1) = true) ∨ (decide (n < 1) = false ∧ decide (5 < n) = true) := by
      by_cases h : n < 1
      · exact .inl (decide_eq_true h)
      · exact .inr ⟨decide_eq_false h, decide_eq_true (by omega)⟩
    clear hn
    go_enter Try.func7, Try.ntmps7
    go_wp2_with fail
    refine HN1.out.mono ?_
    rintro e w1 ⟨ga0, G0, rfl, hg0, hG0, hb0⟩
    have HG0 := Aside.mk (And.intro hg0 (And.intro hG0 hb0))
    clear hg0 hG0 hb0 HN1
    go_wp2_with fail
    refine (groupAck 1 0 HG0.out.1 (grp0_ok (by decide) (by decide))).mono ?_
    rw [show toldE (grp0 1) 1 0 = 4 by decide]
    rintro e w2 ⟨rfl, _, hc⟩
    have HB2 : Aside (Below w.heap.size w w2) := ⟨HG0.out.2.2.trans (hc.below (fun j hj => (HG0.out.2.1 j hj).1) HG0.out.2.2.size)⟩
    clear hc HG0
    go_wp2_with fail
    refine (HNB.out w2).mono ?_
    rintro e w3 ⟨rfl, rfl⟩
    rcases g0 with g1 | ⟨g1, g2⟩
    all_goals
      go_wp2_with fail
      go_ret
      exact ⟨rfl, HB2.out⟩
  · obtain ⟨N, rfl⟩ : ∃ N : Nat, n = (N : Int) := ⟨n.toNat, by omega⟩
    have h1 : 1 ≤ N := by omega
    have h5 : N ≤ 5 := by omega
    have HNN := Aside.mk (fun W => groupNew N h1 h5 W)
    have n0 : (0 : Int) ≤ (N : Int) := by omega
    have g1 : decide ((N : Int) < 1) = false := decide_eq_false (by omega)
    have g2 : decide (5 < (N : Int)) = false := decide_eq_false (by omega)
    have hmk1 := run_make_row' (P := Try.prog) 83 22 (.slice none 0 0) 24 Try.underlying83 infoSS rfl .i64 .i64 N (by omega) (by omega)
    have hmk2 := run_make_row' (P := Try.prog) 39 3 (.int .i64 0) 8 Try.underlying39 infoI rfl .i64 .i64 N (by omega) (by omega)
    clear hn
    go_enter Try.func7, Try.ntmps7
    go_wp2_with (go_at_call 39; refine HN1.out.mono ?_; rintro e w1 ⟨ga0, G0, rfl, hg0, hG0, hb0⟩; have HG0 := Aside.mk (And.intro hg0 (And.intro hG0 hb0)); clear hg0 hG0 hb0 HN1)
    refine (groupAck 1 0 HG0.out.1 (grp0_ok (by decide) (by decide))).mono ?_
    rw [show toldE (grp0 1) 1 0 = 4 by decide]
    rintro e w2 ⟨rfl, _, hc⟩
    have HB2 : Aside (Below w.heap.size w w2) := ⟨HG0.out.2.2.trans (hc.below (fun j hj => (HG0.out.2.1 j hj).1) HG0.out.2.2.size)⟩
    clear hc HG0
    go_wp2_with fail
    refine (HNN.out w2).mono ?_
    rintro e w3 ⟨ga, G, rfl, hg, hG, hb⟩
    have HG := Aside.mk (And.intro hg (And.intro hG hb))
    clear hg hG hb HNN
    go_wp2_with fail
    go_cut [11] (fun v wx => ∃ gm Gm, v = .pointer (some ⟨gm, 0, none⟩) ∧ Aside (GSt w wx N ga gm (grp0 N) (grp0 N) G Gm))
    case first =>
      go_region
      all_goals go_wp2_with fail
      all_goals rw [made_one, made_one]
      · obtain ⟨b1, b2, b3, b4, b5⟩ := three_made w3 (List.replicate N (.slice none 0 0)) (List.replicate N (.int .i64 0)) [.slice (some ⟨w3.heap.size, 0, none⟩) N N, .slice (some ⟨w3.heap.size + 1, 0, none⟩) N N] 22 3 85
        go_meet
        exact ⟨_, _, rfl, ⟨GSt.made h1 h5 (HB2.out.trans (HG.out.2.2.mono HB2.out.size)) HG.out.1 (fun j hj => ⟨Nat.le_trans HB2.out.size (HG.out.2.1 j hj).1, (HG.out.2.1 j hj).2⟩) b4 (rgrp0_is b3 b1 b2 (by omega)) fun j hj => ⟨by omega, Nat.lt_of_lt_of_eq (show j < w3.heap.size + 1 + 1 + 1 by omega) b5.symm⟩⟩⟩
      · obtain ⟨b1, b2, b3, b4, b5⟩ := three_made w3 (List.replicate N (.int .i64 0)) (List.replicate N (.slice none 0 0)) [.slice (some ⟨w3.heap.size + 1, 0, none⟩) N N, .slice (some ⟨w3.heap.size, 0, none⟩) N N] 3 22 85
        go_meet
        exact ⟨_, _, rfl, ⟨GSt.made h1 h5 (HB2.out.trans (HG.out.2.2.mono HB2.out.size)) HG.out.1 (fun j hj => ⟨Nat.le_trans HB2.out.size (HG.out.2.1 j hj).1, (HG.out.2.1 j hj).2⟩) b4 (rgrp0_is b3 b2 b1 (by omega)) fun j hj => ⟨by omega, Nat.lt_of_lt_of_eq (show j < w3.heap.size + 1 + 1 + 1 by omega) b5.symm⟩⟩⟩
    case rest =>
      obtain ⟨gm, Gm, rfl, HS⟩ := hcut
      clear hmk1 hmk2 HG HB2
      go_wp2_with fail
      go_loopw [74] (fun i wr => ∃ (k : Nat) (g : Grp) (G Gm : Nat → Prop), k ≤ L.length ∧ i = .int .i64 k ∧ Aside (GSt w wr N ga gm g g G Gm)) (fun i _ => L.length - (intOf i).toNat)
      case atStart => exact ⟨0, _, _, _, Nat.zero_le _, rfl, HS⟩
      case round =>
        clear HS
        obtain ⟨k, g, G, Gm, hk, rfl, HS⟩ := hrel
        by_cases hlt : k < L.length
        · have k0 : (0 : Int) ≤ (k : Int) := by omega
          have k1 : (k : Int) < (L.length : Int) := by omega
          obtain ⟨ad, u, rfl, _, _, hK, x0⟩ := (HL.out.below HS.out.below).at1 rfl hlt
          obtain ⟨u', hu, A1, c1, rfl, _, hrow⟩ := hK
          obtain rfl : u = .slice A1 L[k].length c1 := by simpa using hu
          have HC := Aside.mk hrow
          have HTB := Aside.mk (HT.out.1.below HS.out.below)
          clear hu hrow
          generalize L[k] = c at *
          have HA := Aside.mk (fun j => atC A1 c1 c j _ wr HC.out)
          go_wp2_with fail
          refine (HA.out 1).mono ?_
          rw [show c[1]?.getD 0 = atV c 1 from rfl]
          rintro e w' ⟨rfl, rfl⟩
          go_wp2_with fail
          refine (HA.out 2).mono ?_
          rw [show c[2]?.getD 0 = atV c 2 from rfl]
          rintro e w' ⟨rfl, rfl⟩
          go_wp2_with fail
          refine (pickC TA TC T (atV c 2) _ wr HTB.out).mono ?_
          rintro e w' ⟨rfl, rfl⟩
          go_wp2_with fail
          refine (HA.out 0).mono ?_
          rw [show c[0]?.getD 0 = atV c 0 from rfl]
          rintro e w' ⟨rfl, rfl⟩
          generalize atV c 0 = c0
          generalize atV c 1 = ci
          generalize atV c 2 = ck
          generalize pickV T ck = s
          go_upto_block 2 with fail
          go_cut [17, 18, 19, 20] (fun x y e f wx => ∃ (X E : Int) (g' : Grp) (G' Gm' : Nat → Prop), x = .int .i64 X ∧ y = .int .i64 X ∧ e = .int .i64 E ∧ f = .int .i64 E ∧ Aside (GSt w wx N ga gm g' g' G' Gm'))
          case first =>
            by_cases q1 : c0 = 1
            · as_aux_lemma =>
                subst q1
                go_wp2_with fail
                refine (groupAdd s HS.out.gi HS.out.okl).mono ?_
                rintro e w4 ⟨rfl, hw⟩
                obtain ⟨G4, h4, _, _⟩ := HS.out.left hw (add_ok HS.out.okl) (len_add _ _)
                have H4 := Aside.mk h4
                clear hw h4
                go_wp2_with fail
                refine (refAdd s H4.out.ri H4.out.okr).mono ?_
                rintro e w5 ⟨rfl, hw⟩
                obtain ⟨Gm5, h5⟩ := H4.out.right hw (add_ok H4.out.okr) (len_add _ _)
                have H5 := Aside.mk h5
                clear hw h5
                go_wp2_with fail
                go_meet
                exact ⟨_, _, _, _, _, rfl, rfl, rfl, rfl, H5⟩
            have e1 : (c0 == 1) = false := beq_eq_false_iff_ne.2 q1
            by_cases q2 : c0 = 2
            · as_aux_lemma =>
                subst q2
                clear e1 q1
                go_wp2_with fail
                refine (groupSend ci ck HS.out.gi HS.out.okl).mono ?_
                rintro e w4 ⟨v, rfl, hs, hb⟩
                have H4 := Aside.mk (HS.out.after hb)
                obtain ⟨B1, d1, rfl, e1, r1⟩ := sl_form hs
                have R1 := Aside.mk r1
                clear hs hb r1
                go_wp2_with fail
                refine (refSend ci ck H4.out.ri H4.out.okr).mono ?_
                rintro e w5 ⟨v, rfl, hs, rfl⟩
                obtain ⟨B2, d2, rfl, e2, r2⟩ := sl_form hs
                have R2 := Aside.mk r2
                clear hs r2
                go_wp2_with fail
                refine (equalS B1 B2 d1 d2 _ _ _ _ w4 R1.out R2.out).mono ?_
                rw [decide_eq_true (rfl : sendV g ci ck = sendV g ci ck)]
                rintro e w5 ⟨rfl, hd⟩
                have H5 := Aside.mk (H4.out.after hd.below)
                clear hd
                go_wp2_with fail
                go_meet
                exact ⟨_, _, _, _, _, rfl, rfl, rfl, rfl, H5⟩
            have e2 : (c0 == 2) = false := beq_eq_false_iff_ne.2 q2
            by_cases q3 : c0 = 3
            · as_aux_lemma =>
                subst q3
                clear e1 q1 e2 q2
                go_wp2_with fail
                refine (refSend ci ck HS.out.ri HS.out.okr).mono ?_
                rintro e w5 ⟨v, rfl, hs, rfl⟩
                obtain ⟨B2, d2, rfl, e2, r2⟩ := sl_form hs
                have R2 := Aside.mk r2
                have H3 := HS
                clear hs r2
                have hX := HA.out 3
                rw [show c[3]?.getD 0 = atV c 3 from rfl] at hX
                have HX := Aside.mk hX
                clear hX
                generalize atV c 3 = c3 at HX
                generalize hl : sendV g ci ck = l at *
                generalize sendE g ci ck = E at *
                by_cases hE : E = 0
                · have f1 : (E == 0) = true := beq_iff_eq.2 hE
                  go_wp2_with fail
                  refine HX.out.mono ?_
                  rintro e w6 ⟨rfl, rfl⟩
                  by_cases h3 : c3 = 1
                  · have f2 : (c3 == 1) = true := beq_iff_eq.2 h3
                    clear h3 hE
                    go_wp2_with fail
                    refine (groupTake ci ck TA TC T _ H3.out.gi H3.out.okl HTB.out HT.out.2).mono ?_
                    rintro e w4 ⟨rfl, hw⟩
                    obtain ⟨G4, h4, hb4, hmv⟩ := H3.out.left hw (take_ok H3.out.okl) (len_take _ _ _ _)
                    have H4 := Aside.mk h4
                    have R4 := Aside.mk (HT.out.1.below hb4)
                    clear hw h4 hb4 hmv
                    go_wp2_with fail
                    refine (refTake ci ck TA TC T _ H4.out.ri H4.out.okr R4.out HT.out.2).mono ?_
                    rintro e w5 ⟨rfl, hw⟩
                    obtain ⟨Gm5, h5⟩ := H4.out.right hw (take_ok H4.out.okr) (len_take _ _ _ _)
                    have H5 := Aside.mk h5
                    clear hw h5
                    go_wp2_with fail
                    go_meet
                    exact ⟨_, _, _, _, _, rfl, rfl, rfl, rfl, H5⟩
                  · have f2 : (c3 == 1) = false := beq_eq_false_iff_ne.2 h3
                    clear h3 hE
                    go_wp2_with fail
                    refine (groupTake ci ck B2 d2 l _ H3.out.gi H3.out.okl R2.out e2).mono ?_
                    rintro e w4 ⟨rfl, hw⟩
                    obtain ⟨G4, h4, hb4, hmv⟩ := H3.out.left hw (take_ok H3.out.okl) (len_take _ _ _ _)
                    have H4 := Aside.mk h4
                    have R4 := Aside.mk (R2.out.move fun k hk _ => hmv k hk)
                    clear hw h4 hb4 hmv
                    go_wp2_with fail
                    refine (refTake ci ck B2 d2 l _ H4.out.ri H4.out.okr R4.out e2).mono ?_
                    rintro e w5 ⟨rfl, hw⟩
                    obtain ⟨Gm5, h5⟩ := H4.out.right hw (take_ok H4.out.okr) (len_take _ _ _ _)
                    have H5 := Aside.mk h5
                    clear hw h5
                    go_wp2_with fail
                    go_meet
                    exact ⟨_, _, _, _, _, rfl, rfl, rfl, rfl, H5⟩
                · have f1 : (E == 0) = false := beq_eq_false_iff_ne.2 hE
                  have f2 : (E != 0) = true := by rw [bne, f1]; rfl
                  clear hE
                  go_wp2_with fail
                  refine (groupTake ci ck TA TC T _ H3.out.gi H3.out.okl HTB.out HT.out.2).mono ?_
                  rintro e w4 ⟨rfl, hw⟩
                  obtain ⟨G4, h4, hb4, hmv⟩ := H3.out.left hw (take_ok H3.out.okl) (len_take _ _ _ _)
                  have H4 := Aside.mk h4
                  have R4 := Aside.mk (HT.out.1.below hb4)
                  clear hw h4 hb4 hmv
                  go_wp2_with fail
                  refine (refTake ci ck TA TC T _ H4.out.ri H4.out.okr R4.out HT.out.2).mono ?_
                  rintro e w5 ⟨rfl, hw⟩
                  obtain ⟨Gm5, h5⟩ := H4.out.right hw (take_ok H4.out.okr) (len_take _ _ _ _)
                  have H5 := Aside.mk h5
                  clear hw h5
                  go_wp2_with fail
                  go_meet
                  exact ⟨_, _, _, _, _, rfl, rfl, rfl, rfl, H5⟩
            have e3 : (c0 == 3) = false := beq_eq_false_iff_ne.2 q3
            by_cases q4 : c0 = 4
            · as_aux_lemma =>
                subst q4
                clear e1 q1 e2 q2 e3 q3
                go_wp2_with fail
                refine (groupAck ci ck HS.out.gi HS.out.okl).mono ?_
                rintro e w4 ⟨rfl, hw1, hw2⟩
                obtain ⟨G4, h4, _, _⟩ := HS.out.left (Wrote.of_chg hw1 hw2) (told_ok HS.out.okl) (len_told _ _ _)
                have H4 := Aside.mk h4
                clear hw1 hw2 h4
                go_wp2_with fail
                refine (refTold ci ck H4.out.ri H4.out.okr).mono ?_
                rintro e w5 ⟨rfl, hw⟩
                obtain ⟨Gm5, h5⟩ := H4.out.right hw (told_ok H4.out.okr) (len_told _ _ _)
                have H5 := Aside.mk h5
                clear hw h5
                go_wp2_with fail
                go_meet
                exact ⟨_, _, _, _, _, rfl, rfl, rfl, rfl, H5⟩
            have e4 : (c0 == 4) = false := beq_eq_false_iff_ne.2 q4
            by_cases q5 : c0 = 5
            · as_aux_lemma =>
                subst q5
                clear e1 q1 e2 q2 e3 q3 e4 q4
                go_wp2_with fail
                refine (groupLose ci ck HS.out.gi HS.out.okl).mono ?_
                rintro e w4 ⟨rfl, hw⟩
                obtain ⟨G4, h4, _, _⟩ := HS.out.left hw (lose_ok HS.out.okl) (len_lose _ _ _)
                have H4 := Aside.mk h4
                clear hw h4
                go_wp2_with fail
                refine (refLose ci ck H4.out.ri H4.out.okr).mono ?_
                rintro e w5 ⟨rfl, hw⟩
                obtain ⟨Gm5, h5⟩ := H4.out.right hw (lose_ok H4.out.okr) (len_lose _ _ _)
                have H5 := Aside.mk h5
                clear hw h5
                go_wp2_with fail
                go_meet
                exact ⟨_, _, _, _, _, rfl, rfl, rfl, rfl, H5⟩
            have e5 : (c0 == 5) = false := beq_eq_false_iff_ne.2 q5
            clear q1 q2 q3 q4 q5
            go_wp2_with fail
            go_meet
            exact ⟨0, 0, _, _, _, rfl, rfl, rfl, rfl, HS⟩
          case rest =>
            as_aux_lemma =>
              obtain ⟨X, E, g2, G2, Gm2, rfl, rfl, rfl, rfl, HS2⟩ := hcut
              clear HS HA HC HTB x0
              go_wp2_with fail
              refine (groupSure HS2.out.gi HS2.out.okl).mono ?_
              rintro e w4 ⟨rfl, hb⟩
              have H4 := Aside.mk (HS2.out.after hb)
              clear hb HS2
              go_wp2_with fail
              refine (refSure H4.out.ri H4.out.okr).mono ?_
              rintro e w5 ⟨rfl, rfl⟩
              go_wp2_with fail
              go_loopw [189] (fun j wr => ∃ n : Nat, n ≤ 6 ∧ j = .int .i64 n ∧ Aside (GSt w wr N ga gm g2 g2 G2 Gm2)) (fun j _ => 6 - (intOf j).toNat)
              case atStart => exact ⟨0, by omega, rfl, H4⟩
              case round =>
                clear H4
                obtain ⟨n, hn, rfl, H4⟩ := hrel
                by_cases hn6 : n < 6
                · have f0 : decide ((n : Int) < 6) = true := decide_eq_true (by omega)
                  by_cases hnN : n < N
                  · have hlE : logE g2 n = 0 := if_neg (by rw [H4.out.nl]; omega)
                    have hlV : logV g2 n = g2.lst n := if_pos hlE
                    have f1 : decide (N ≤ n) = false := decide_eq_false (by omega)
                    have HLE := Aside.mk (And.intro hlE hlV)
                    clear hlE hlV
                    go_wp2_with fail
                    refine (groupLog n H4.out.gi H4.out.okl).mono ?_
                    rw [HLE.out.1, HLE.out.2]
                    rintro e w6 ⟨v, rfl, hs, hb⟩
                    have H6 := Aside.mk (H4.out.after hb)
                    obtain ⟨B1, d1, rfl, e1, r1⟩ := sl_form hs
                    have R1 := Aside.mk r1
                    obtain ⟨hm, km, hs2, hr⟩ := H6.out.ri
                    have q := Bk.two hr.bk
                    rw [H6.out.nr] at q
                    obtain ⟨B2, d2, y0, e2, r2⟩ := hr.at_ (i := n) (by rw [H6.out.nr]; exact hnN)
                    have R2 := Aside.mk r2
                    have n0' : (0 : Int) ≤ (n : Int) := by omega
                    have n1' : (n : Int) < (N : Int) := by omega
                    clear hs hb r1 r2 hr
                    go_wp2_with fail
                    refine (equalS B1 B2 d1 d2 _ _ _ _ w6 R1.out R2.out).mono ?_
                    rw [decide_eq_true (rfl : g2.lst n = g2.lst n)]
                    rintro e w7 ⟨rfl, hd⟩
                    have H7 := Aside.mk (H6.out.after hd.below)
                    clear hd y0 q
                    go_wp2_with fail
                    refine ⟨⟨n + 1, by omega, by go_num, H7⟩, by simp [intOf]; omega⟩
                  · have hlE : logE g2 n = 4 := if_pos (.inr (by rw [H4.out.nl]; omega))
                    have hlV : logV g2 n = [] := by rw [logV, hlE]; rfl
                    have f1 : decide (N ≤ n) = true := decide_eq_true (by omega)
                    have HLE := Aside.mk (And.intro hlE hlV)
                    clear hlE hlV
                    go_wp2_with fail
                    refine (groupLog n H4.out.gi H4.out.okl).mono ?_
                    rw [HLE.out.1, HLE.out.2]
                    rintro e w6 ⟨v, rfl, hs, hb⟩
                    have H6 := Aside.mk (H4.out.after hb)
                    obtain ⟨B1, d1, rfl, e1, r1⟩ := sl_form hs
                    clear hs hb r1
                    go_wp2_with fail
                    refine ⟨⟨n + 1, by omega, by go_num, H6⟩, by simp [intOf]; omega⟩
                · obtain rfl : n = 6 := by omega
                  have hLm := HL.out.1
                  have kk : (k : Int) + 1 ≤ 9223372036854775807 := by omega
                  have f0 : decide (((6 : Nat) : Int) < 6) = false := by decide
                  go_wp2_with fail
                  refine ⟨⟨k + 1, g2, G2, Gm2, by omega, by go_num, H4⟩, by simp [intOf]; omega⟩
        · obtain rfl : k = L.length := by omega
          go_wp2_with fail
          go_ret
          exact ⟨rfl, HS.out.below⟩
end Go.Proofs.WK
