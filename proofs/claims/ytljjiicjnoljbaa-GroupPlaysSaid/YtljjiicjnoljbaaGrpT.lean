/-
  (*group.Group).Take.
-/
import Derived.Test.YtljjiicjnoljbaaGrpL
import Derived.Test.YtljjiicjnoljbaaAppR
namespace Go.Proofs.WK
open Go.RowKit Rp
variable {w w' : World} {G G' : Nat → Prop} {ga : Nat} {g : Grp}
theorem take_no {g : Grp} {i f : Int} {l : List ByteArray} {x : Int} (h : takeE g i f l = x) (hx : x ≠ 0) : takeN g i f l = 0 ∧ takeG g i f l = g ∧ takeE g i f l = x := by
  subst h
  exact ⟨if_neg hx, if_neg hx, rfl⟩
set_option maxHeartbeats 8000000 in
set_option maxRecDepth 100000 in
theorem groupTake (i f : Int) (B : Option Addr) (d : Nat) (l : List ByteArray) (ok : Nat → Prop) (h : GrpIs w G ga g) (hg : GrpOk g) (hr : str.Row w ok B l) (hd : l.length ≤ d) :
    Calls Try.prog 47 #[.pointer (some ⟨ga, 0, none⟩), .int .i64 i, .int .i64 f, .slice B l.length d] w fun e w' => e = .returned (.tuple #[.int .i64 (takeN g i f l), .int .i64 (takeE g i f l)]) ∧ Wrote w G ga (takeG g i f l) w' := by
  have HI := Aside.mk (groupIs i h)
  have HG := Aside.mk h
  have HR := Aside.mk (And.intro hr hd)
  obtain ⟨hb, kb, vl, v0, hs, h⟩ := h
  have q := Bk.quad h.bk
  have HA := Aside.mk h
  cases hi : grpIs g i with
  | false =>
    obtain ⟨e1, e2, e3⟩ := take_no (show takeE g i f l = 4 from if_pos hi) (by decide)
    rw [e1, e2, e3]
    have HH := Aside.mk hi
    clear h e1 e2 e3 hi hr hd
    go_enter Try.func47, Try.ntmps47
    go_wp2_with fail
    refine HI.out.mono ?_
    rw [HH.out]
    rintro e w1 ⟨rfl, rfl⟩
    go_wp2_with fail
    go_ret2
    exact ⟨rfl, .same HG.out⟩
  | true =>
    have HH := Aside.mk hi
    have his := grpIs_iff hi
    obtain ⟨k, rfl⟩ : ∃ k : Nat, i = (k : Int) := ⟨i.toNat, by omega⟩
    have hk : k < g.has.length := by omega
    have p0 : (0 : Int) ≤ (k : Int) := by omega
    have p1 : (k : Int) < (g.has.length : Int) := by omega
    obtain ⟨A, c, x0, x1, x2⟩ := h.at_ hk
    have hlen := hg.len k
    by_cases h0 : f < 0 ∨ 60 < l.length
    · obtain ⟨e1, e2, e3⟩ := take_no (show takeE g k f l = 1 by rw [takeE, if_neg (by simp [hi])]; exact if_pos h0) (by decide)
      rw [e1, e2, e3]
      clear e1 e2 e3 hi x2 hr hd
      by_cases h1 : f < 0
      · have g1 : decide (f < 0) = true := decide_eq_true h1
        clear h h0 h1
        go_enter Try.func47, Try.ntmps47
        go_wp2_with fail
        refine HI.out.mono ?_
        rw [HH.out]
        rintro e w1 ⟨rfl, rfl⟩
        go_wp2_with fail
        go_ret2
        exact ⟨rfl, .same HG.out⟩
      · have g1 : decide (f < 0) = false := decide_eq_false h1
        have g3 : decide (60 < l.length) = true := decide_eq_true (by omega)
        have g4 : decide (60 < (l.length : Int)) = true := decide_eq_true (by omega)
        clear h h0 h1
        go_enter Try.func47, Try.ntmps47
        go_wp2_with fail
        refine HI.out.mono ?_
        rw [HH.out]
        rintro e w1 ⟨rfl, rfl⟩
        go_wp2_with fail
        go_ret2
        exact ⟨rfl, .same HG.out⟩
    · obtain ⟨m, rfl⟩ : ∃ m : Nat, f = (m : Int) := ⟨f.toNat, by omega⟩
      have hl60 : l.length ≤ 60 := by omega
      have g1 : decide ((m : Int) < 0) = false := by simp
      have g3 : decide (60 < l.length) = false := decide_eq_false (by omega)
      have g4 : decide (60 < (l.length : Int)) = false := decide_eq_false (by omega)
      by_cases h2 : (g.lst k).length < m
      · obtain ⟨e1, e2, e3⟩ := take_no (show takeE g k m l = 9 by rw [takeE, if_neg (by simp [hi]), if_neg h0]; exact if_pos (by show ((g.lst k).length : Int) < m; omega)) (by decide)
        rw [e1, e2, e3]
        have g5 : decide ((g.lst k).length < m) = true := decide_eq_true h2
        clear e1 e2 e3 hi x2 hr hd h h0 h2
        go_enter Try.func47, Try.ntmps47
        go_wp2_with fail
        refine HI.out.mono ?_
        rw [HH.out]
        rintro e w1 ⟨rfl, rfl⟩
        go_wp2_with fail
        go_ret2
        exact ⟨rfl, .same HG.out⟩
      · have g5 : decide ((g.lst k).length < m) = false := decide_eq_false h2
        have HE0 : Aside (takeE g k m l = if clash (g.lst k) m l = true then 3 else if 60 < (m : Int) + (l.length : Int) then 2 else 0) := ⟨by
          rw [takeE, if_neg (by simp [hi]), if_neg h0]
          exact if_neg (by show ¬ ((g.lst k).length : Int) < m; omega)⟩
        have HX := Aside.mk x2
        have HM := Aside.mk (And.intro hlen (And.intro hl60 (show m ≤ (g.lst k).length by omega)))
        clear hi x2 hr hd h h0 h2 hlen hl60
        go_enter Try.func47, Try.ntmps47
        go_wp2_with fail
        refine HI.out.mono ?_
        rw [HH.out]
        rintro e w1 ⟨rfl, rfl⟩
        go_wp2_with fail
        go_loopw [38] (fun j wr => ∃ n : Nat, n ≤ l.length ∧ j = .int .i64 n ∧ Aside (clashK (g.lst k) m l n = false) ∧ wr = w) (fun j _ => l.length - (intOf j).toNat)
        case atStart => exact ⟨0, Nat.zero_le _, rfl, ⟨rfl⟩, rfl⟩
        case round =>
          obtain ⟨n, hn, rfl, HCL, rfl⟩ := hrel
          have hM := HM.out
          by_cases hlt : n < l.length
          · have n0 : (0 : Int) ≤ (n : Int) := by omega
            have n1 : (n : Int) < (l.length : Int) := by omega
            obtain ⟨bd, rfl, _, y0⟩ := str_at HR.out.1 hlt
            have hw : IntKind.i64.wrap ((m : Int) + (n : Int)) = (m : Int) + (n : Int) := by rw [IntKind.wrap_i64]; omega
            have ht : ((m : Int) + (n : Int)).toNat = m + n := by omega
            by_cases hin : m + n < (g.lst k).length
            · have g6 : decide ((m : Int) + (n : Int) < ((g.lst k).length : Int)) = true := decide_eq_true (by omega)
              have i0 : (0 : Int) ≤ (m : Int) + (n : Int) := by omega
              have i1 : (m : Int) + (n : Int) < ((g.lst k).length : Int) := by omega
              obtain ⟨ad, rfl, _, z0⟩ := str_at HX.out hin
              by_cases he : (g.lst k)[m + n] = l[n]
              · have hbq : ((g.lst k)[m + n].toList == l[n].toList) = true := by rw [he]; simp
                have HC2 : Aside (clashK (g.lst k) m l (n + 1) = false) := ⟨by rw [clashK_in hlt hin, HCL.out, decide_eq_true he]; rfl⟩
                clear he
                go_wp2_with fail
                refine ⟨⟨n + 1, by omega, by go_num, HC2, trivial⟩, by simp [intOf]; omega⟩
              · have hbq : ((g.lst k)[m + n].toList == l[n].toList) = false := by rw [toList_beq]; simp [he]
                have hc : clash (g.lst k) m l = true := clash_of (k := n + 1) (by rw [clashK_in hlt hin, HCL.out, decide_eq_false he]; rfl)
                have hE3 := take_no (HE0.out.trans (if_pos hc)) (by decide)
                have HE3 := Aside.mk hE3
                clear he hc hE3
                go_wp2_with fail
                go_ret2
                exact ⟨by rw [HE3.out.1, HE3.out.2.2]; rfl, by rw [HE3.out.2.1]; exact .same HG.out⟩
            · have g6 : decide ((m : Int) + (n : Int) < ((g.lst k).length : Int)) = false := decide_eq_false (by omega)
              have HC2 : Aside (clashK (g.lst k) m l (n + 1) = false) := ⟨by rw [clashK_out (by omega), HCL.out]⟩
              go_wp2_with fail
              refine ⟨⟨n + 1, by omega, by go_num, HC2, trivial⟩, by simp [intOf]; omega⟩
          · obtain rfl : n = l.length := by omega
            have hw : IntKind.i64.wrap ((m : Int) + (l.length : Int)) = (m : Int) + (l.length : Int) := by rw [IntKind.wrap_i64]; omega
            have hno : clash (g.lst k) m l = false := by rw [← clashK_all]; exact HCL.out
            have hE1 := HE0.out
            rw [hno, if_neg (by decide)] at hE1
            by_cases h6 : 60 < (m : Int) + (l.length : Int)
            · rw [if_pos h6] at hE1
              have HE3 := Aside.mk (take_no hE1 (by decide))
              have g6 : decide (60 < (m : Int) + (l.length : Int)) = true := decide_eq_true h6
              clear hno hE1 h6
              go_wp2_with fail
              go_ret2
              exact ⟨by rw [HE3.out.1, HE3.out.2.2]; rfl, by rw [HE3.out.2.1]; exact .same HG.out⟩
            · rw [if_neg h6] at hE1
              have g6 : decide (60 < (m : Int) + (l.length : Int)) = false := decide_eq_false h6
              have e1 : takeG g k m l = { g with has := g.has.set k (longer (g.lst k) m l) } := if_pos hE1
              have e2 : takeN g k m l = ((longer (g.lst k) m l).length : Int) := if_pos hE1
              have HE := Aside.mk (And.intro e1 (And.intro e2 hE1))
              clear hno hE1 e1 e2
              by_cases h7 : (g.lst k).length < m + l.length
              · have g7 : decide (((g.lst k).length : Int) < (m : Int) + (l.length : Int)) = true := decide_eq_true (by omega)
                obtain ⟨o, ho⟩ : ∃ o : Nat, (g.lst k).length = m + o := ⟨(g.lst k).length - m, by omega⟩
                have hs1 : IntKind.i64.wrap (((g.lst k).length : Int) - (m : Int)) = (o : Int) := by rw [IntKind.wrap_i64]; omega
                have o0 : (0 : Int) ≤ (o : Int) := by omega
                have o1 : (o : Int) ≤ (l.length : Int) := by omega
                have hd := HR.out.2
                have o2 : (l.length : Int) ≤ (d : Int) := by omega
                have nd : ¬ d = o := by omega
                have el : longer (g.lst k) m l = g.lst k ++ l.drop o := by
                  unfold longer
                  rw [show (g.lst k).length - m = o by omega]
                rw [el] at HE
                obtain ⟨bd, rfl, hbd1, hbd2⟩ := str_at HR.out.1 (k := 0) (by omega)
                have hcut := HR.out.1.cut (n := o) (by omega)
                rw [show str.sz = 1 from rfl, Nat.mul_one] at hcut
                have HCUT : Aside (str.Row wr ok (some (bd.add o)) (l.drop o)) := ⟨hcut⟩
                have HL1 : Aside ((g.lst k).length * 16 ≤ 140737488355328) := ⟨by omega⟩
                have HL2 : Aside (((g.lst k).length + (l.drop o).length) * 16 ≤ 140737488355328) := ⟨by rw [List.length_drop]; omega⟩
                have HK1 : Aside (1 ≤ k) := ⟨by omega⟩
                have HC := Aside.mk q.2.2.2.1
                have HNE := Aside.mk HA.out.ne.1
                clear hcut el hbd1 hbd2 ho
                go_upto_region 19 with fail
                go_region_held3 (fun w' => w'.cell? ⟨ga, 2, none⟩ = some (.slice (some ⟨hb, 0, none⟩) g.has.length g.has.length))
                  (first | exact HC.out | assumption | exact cell_else (by assumption) HNE.out.symm)
                  (first
                   | (go_at_call 56
                      refine (cloneS A _ c (g.lst k) _ _ (HX.out.below (below_drewN (Below.refl _ _) 1)) rfl HL1.out).mono ?_
                      rintro e w1 ⟨v, rfl, ho, hb1⟩
                      have hbd := below_step (below_drewN (Below.refl _ _) 1) hb1
                      have hx1 := cell_below hbd HC.out
                      have HB1 := Aside.mk hbd
                      have HO1 := Aside.mk ho
                      have HCU := Aside.mk (HCUT.out.below hbd)
                      obtain ⟨X, d5, rfl⟩ := Sl.form ho.sl
                      clear ho hb1 hbd)
                   | (refine step_row (w0 := wr) str wr.heap.size rfl (.tmp 75) (.tmp 81) 22 9 (.string ByteArray.empty) 16 rfl Try.underlying22 infoStr rfl Nat.one_pos (Nat.succ_pos _) (.slice X (g.lst k).length d5) (g.lst k) (l.drop o) (bd.add o) (d - o) (fun _ => False) ok (l.length - o) (by rw [List.length_drop]) rfl rfl HCU.out (fun _ _ h => h) HO1.out HB1.out HB1.out.size HL2.out ?_
                      intro v1 w2 hO2 hB2 hg2 hat2
                      have hx2 := cell_below hB2 HC.out
                      have x9 := cell_below hB2 x0
                      have fz9 := (HA.out.hh.below hB2).frozen
                      have HB2 := Aside.mk hB2
                      have HO2 := Aside.mk hO2
                      obtain ⟨X2, d6, rfl⟩ := Sl.form hO2.sl
                      clear hO2 hB2 hg2 hat2))
                have q2 := (HA.out.bk.below HB2.out).cell 2
                have hne2 := HNE.out
                have HLN : Aside ((g.lst k ++ l.drop o).length = (g.lst k).length + (l.length - o)) := ⟨by rw [List.length_append, List.length_drop]⟩
                have HLI : Aside (((g.lst k).length : Int) + ((l.length - o : Nat) : Int) = (((g.lst k).length + (l.length - o) : Nat) : Int)) := ⟨by simp⟩
                go_wp2_with fail
                go_ret2
                have hO := HO2.out
                rw [HLN.out] at hO
                exact ⟨by rw [HE.out.2.1, HE.out.2.2, HLN.out]; first | rfl | (rw [← HLI.out]; rfl), by rw [HE.out.1]; exact HA.out.lay HB2.out HK1.out hO⟩
              · have g7 : decide (((g.lst k).length : Int) < (m : Int) + (l.length : Int)) = false := decide_eq_false (by omega)
                have e8 : longer (g.lst k) m l = g.lst k := by
                  unfold longer
                  rw [List.drop_eq_nil_of_le (by omega), List.append_nil]
                have e9 : takeG g k m l = g := by
                  rw [HE.out.1, e8, set_lst hk]
                have HE9 := Aside.mk (And.intro e9 (show takeN g k m l = ((g.lst k).length : Int) by rw [HE.out.2.1, e8]))
                clear e8 e9 h6 h7
                go_wp2_with fail
                go_ret2
                exact ⟨by rw [HE9.out.2, HE.out.2.2]; rfl, by rw [HE9.out.1]; exact .same HG.out⟩
end Go.Proofs.WK
