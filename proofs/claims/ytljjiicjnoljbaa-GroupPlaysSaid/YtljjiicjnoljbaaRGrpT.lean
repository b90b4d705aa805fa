/-
  (*wyref.Group).Take.
-/
import Derived.Test.YtljjiicjnoljbaaRGrpW
namespace Go.Proofs.WK
open Go.RowKit Rp
variable {w w1 : World} {G G' : Nat → Prop} {gm hm km : Nat} {g : Grp} {hs : List Value}
/-- What is there when n have been looked at. -/
def grownK (h : List ByteArray) (f : Nat) (l : List ByteArray) (n : Nat) : List ByteArray := h ++ (l.take n).drop (h.length - f)
theorem grownK_zero (h : List ByteArray) (f : Nat) (l : List ByteArray) : grownK h f l 0 = h := by simp [grownK]
theorem grownK_all (h : List ByteArray) (f : Nat) (l : List ByteArray) : grownK h f l l.length = longer h f l := by
  unfold grownK longer
  rw [List.take_length]
theorem grownK_in {h l : List ByteArray} {f n : Nat} (hn : f + n ≤ h.length) : grownK h f l n = h := by
  unfold grownK
  rw [List.drop_eq_nil_of_le (by rw [List.length_take]; omega), List.append_nil]
theorem grownK_out {h l : List ByteArray} {f n : Nat} (hf : f ≤ h.length) (hn : h.length ≤ f + n) (hl : n < l.length) : grownK h f l (n + 1) = grownK h f l n ++ [l[n]] := by
  unfold grownK
  rw [List.take_succ_eq_append_getElem hl, List.drop_append_of_le_length (by rw [List.length_take]; omega), List.append_assoc]
theorem grownK_len {h l : List ByteArray} {f n : Nat} (hf : f ≤ h.length) (hn : h.length ≤ f + n) (hl : n ≤ l.length) : (grownK h f l n).length = f + n := by
  unfold grownK
  rw [List.length_append, List.length_drop, List.length_take]
  omega
set_option maxHeartbeats 8000000 in
set_option maxRecDepth 100000 in
theorem refTake (i f : Int) (B : Option Addr) (d : Nat) (l : List ByteArray) (ok : Nat → Prop) (h : RGrpIs w G gm g) (hg : GrpOk g) (hr : str.Row w ok B l) (hd : l.length ≤ d) :
    Calls Try.prog 48 #[.pointer (some ⟨gm, 0, none⟩), .int .i64 i, .int .i64 f, .slice B l.length d] w fun e w' => e = .returned (.tuple #[.int .i64 (takeN g i f l), .int .i64 (takeE g i f l)]) ∧ RWrote w G gm (takeG g i f l) w' := by
  have HI := Aside.mk (refIs i h hg)
  have HG := Aside.mk h
  have HR := Aside.mk (And.intro hr hd)
  obtain ⟨hm, km, hs, h⟩ := h
  have q := Bk.two h.bk
  have HA := Aside.mk h
  cases hi : grpIs g i with
  | false =>
    obtain ⟨e1, e2, e3⟩ := take_no (show takeE g i f l = 4 from if_pos hi) (by decide)
    rw [e1, e2, e3]
    have HH := Aside.mk hi
    clear h e1 e2 e3 hi hr hd
    go_enter Try.func48, Try.ntmps48
    go_wp2_with fail
    refine HI.out.mono ?_
    rw [HH.out]
    rintro e w1 ⟨rfl, rfl⟩
    go_wp2_with fail
    go_ret2
    exact ⟨rfl, .same HG.out⟩
  | true =>
    have HH := Aside.mk hi
    have his := grpIs_iff hi
    obtain ⟨k, rfl⟩ : ∃ k : Nat, i = (k : Int) := ⟨i.toNat, by omega⟩
    have hk : k < g.has.length := by omega
    have p0 : (0 : Int) ≤ (k : Int) := by omega
    have p1 : (k : Int) < (g.has.length : Int) := by omega
    obtain ⟨A, c, x0, x1, x2⟩ := h.at_ hk
    have hlen := hg.len k
    by_cases h0 : f < 0 ∨ 60 < l.length
    · obtain ⟨e1, e2, e3⟩ := take_no (show takeE g k f l = 1 by rw [takeE, if_neg (by simp [hi])]; exact if_pos h0) (by decide)
      rw [e1, e2, e3]
      clear e1 e2 e3 hi x2 hr hd
      by_cases h1 : f < 0
      · have g1 : decide (f < 0) = true := decide_eq_true h1
        clear h h0 h1
        go_enter Try.func48, Try.ntmps48
        go_wp2_with fail
        refine HI.out.mono ?_
        rw [HH.out]
        rintro e w1 ⟨rfl, rfl⟩
        go_wp2_with fail
        go_ret2
        exact ⟨rfl, .same HG.out⟩
      · have g1 : decide (f < 0) = false := decide_eq_false h1
        have g3 : decide (60 < l.length) = true := decide_eq_true (by omega)
        have g4 : decide (60 < (l.length : Int)) = true := decide_eq_true (by omega)
        clear h h0 h1
        go_enter Try.func48, Try.ntmps48
        go_wp2_with fail
        refine HI.out.mono ?_
        rw [HH.out]
        rintro e w1 ⟨rfl, rfl⟩
        go_wp2_with fail
        go_ret2
        exact ⟨rfl, .same HG.out⟩
    · obtain ⟨m, rfl⟩ : ∃ m : Nat, f = (m : Int) := ⟨f.toNat, by omega⟩
      have hl60 : l.length ≤ 60 := by omega
      have g1 : decide ((m : Int) < 0) = false := by simp
      have g3 : decide (60 < l.length) = false := decide_eq_false (by omega)
      have g4 : decide (60 < (l.length : Int)) = false := decide_eq_false (by omega)
      by_cases h2 : (g.lst k).length < m
      · obtain ⟨e1, e2, e3⟩ := take_no (show takeE g k m l = 9 by rw [takeE, if_neg (by simp [hi]), if_neg h0]; exact if_pos (by show ((g.lst k).length : Int) < m; omega)) (by decide)
        rw [e1, e2, e3]
        have g5 : decide ((g.lst k).length < m) = true := decide_eq_true h2
        clear e1 e2 e3 hi x2 hr hd h h0 h2
        go_enter Try.func48, Try.ntmps48
        go_wp2_with fail
        refine HI.out.mono ?_
        rw [HH.out]
        rintro e w1 ⟨rfl, rfl⟩
        go_wp2_with fail
        go_ret2
        exact ⟨rfl, .same HG.out⟩
      · have g5 : decide ((g.lst k).length < m) = false := decide_eq_false h2
        have HE0 : Aside (takeE g k m l = if clash (g.lst k) m l = true then 3 else if 60 < (m : Int) + (l.length : Int) then 2 else 0) := ⟨by
          rw [takeE, if_neg (by simp [hi]), if_neg h0]
          exact if_neg (by show ¬ ((g.lst k).length : Int) < m; omega)⟩
        have HX := Aside.mk x2
        have hmh : m ≤ (g.lst k).length := by omega
        have HM := Aside.mk (And.intro hlen (And.intro hl60 hmh))
        have HL1 : Aside ((g.lst k).length * 16 ≤ 140737488355328) := ⟨by omega⟩
        clear hi x2 hr hd h h0 h2 hlen hl60 hmh
        go_enter Try.func48, Try.ntmps48
        go_wp2_with fail
        refine HI.out.mono ?_
        rw [HH.out]
        rintro e w1 ⟨rfl, rfl⟩
        go_wp2_with fail
        refine (cloneS A _ c (g.lst k) _ _ HX.out rfl HL1.out).mono ?_
        rintro e w1 ⟨v, rfl, ho, hb1⟩
        have HB1 := Aside.mk hb1
        have HO1 : Aside (str.Own 9 w1 w.heap.size (fun _ => False) v (g.lst k)) := ⟨ho⟩
        clear ho hb1
        go_wp2_with fail
        go_loopw [11, 41] (fun v j wr => ∃ n : Nat, n ≤ l.length ∧ j = .int .i64 n ∧ Aside (clashK (g.lst k) m l n = false) ∧ Aside (str.Own 9 wr w.heap.size (fun _ => False) v (grownK (g.lst k) m l n)) ∧ Aside (Below w.heap.size w wr)) (fun _ j _ => l.length - (intOf j).toNat)
        case atStart => exact ⟨0, Nat.zero_le _, rfl, ⟨rfl⟩, ⟨by rw [grownK_zero]; exact HO1.out⟩, HB1⟩
        case round =>
          clear HO1 HB1
          obtain ⟨n, hn, rfl, HCL, HO, HB⟩ := hrel
          have hM := HM.out
          by_cases hlt : n < l.length
          · have n0 : (0 : Int) ≤ (n : Int) := by omega
            have n1 : (n : Int) < (l.length : Int) := by omega
            have HR2 := Aside.mk (HR.out.1.below HB.out)
            obtain ⟨bd, rfl, _, y0⟩ := str_at HR2.out hlt
            have hw : IntKind.i64.wrap ((m : Int) + (n : Int)) = (m : Int) + (n : Int) := by rw [IntKind.wrap_i64]; omega
            have ht : ((m : Int) + (n : Int)).toNat = m + n := by omega
            by_cases hin : m + n < (g.lst k).length
            · rw [grownK_in (by omega)] at HO
              have hrow := HO.out.sl
              obtain ⟨X, dd, rfl, hcd, hrow⟩ := hrow
              have g6 : (((m : Int) + (n : Int)) == ((g.lst k).length : Int)) = false := by simp; omega
              have i0 : (0 : Int) ≤ (m : Int) + (n : Int) := by omega
              have i1 : (m : Int) + (n : Int) < ((g.lst k).length : Int) := by omega
              obtain ⟨ad, rfl, _, z0⟩ := str_at hrow hin
              by_cases he : (g.lst k)[m + n] = l[n]
              · have hbq : ((g.lst k)[m + n].toList == l[n].toList) = true := by rw [he]; simp
                have HC2 : Aside (clashK (g.lst k) m l (n + 1) = false) := ⟨by rw [clashK_in hlt hin, HCL.out, decide_eq_true he]; rfl⟩
                have HO2 : Aside (str.Own 9 wr w.heap.size (fun _ => False) (.slice (some ad) (g.lst k).length dd) (grownK (g.lst k) m l (n + 1))) := ⟨by rw [grownK_in (by omega)]; exact HO.out⟩
                clear he hrow hcd HO
                go_wp2_with fail
                refine ⟨⟨n + 1, by omega, by go_num, HC2, HO2, HB⟩, by simp [intOf]; omega⟩
              · have hbq : ((g.lst k)[m + n].toList == l[n].toList) = false := by rw [toList_beq]; simp [he]
                have hc : clash (g.lst k) m l = true := clash_of (k := n + 1) (by rw [clashK_in hlt hin, HCL.out, decide_eq_false he]; rfl)
                have hE3 := take_no (HE0.out.trans (if_pos hc)) (by decide)
                have HE3 := Aside.mk hE3
                clear he hc hE3 hrow hcd HO
                go_wp2_with fail
                go_ret2
                exact ⟨by rw [HE3.out.1, HE3.out.2.2]; rfl, by rw [HE3.out.2.1]; exact .below HG.out HB.out⟩
            · have hgl := grownK_len (l := l) (n := n) hM.2.2 (by omega) hn
              have HGL := Aside.mk hgl
              have hgo := grownK_out (l := l) hM.2.2 (by omega) hlt
              have HGO := Aside.mk hgo
              obtain ⟨X, dd, rfl⟩ := Sl.form HO.out.sl
              have g6 : (((m : Int) + (n : Int)) == ((grownK (g.lst k) m l n).length : Int)) = true := by rw [hgl]; simp
              have HC2 : Aside (clashK (g.lst k) m l (n + 1) = false) := ⟨by rw [clashK_out (by omega), HCL.out]⟩
              have HL2 : Aside (((grownK (g.lst k) m l n).length + 1) * 16 ≤ 140737488355328) := ⟨by rw [hgl]; omega⟩
              clear hgl hgo
              go_wp2_with (at_builtin; refine append_one (w0 := w) str w.heap.size rfl (.tmp 54) (.tmp 56) 22 9 (.string ByteArray.empty) 16 rfl Try.underlying22 infoStr rfl Nat.one_pos (Nat.succ_pos _) (.slice X (grownK (g.lst k) m l n).length dd) (grownK (g.lst k) m l n) l[n] [.string l[n]] (fun _ => False) rfl rfl rfl HO.out HB.out HB.out.size HL2.out ?_; intro v1 w2 hO2 hB2 hg2 hat2; clear hg2 hat2)
              refine ⟨⟨n + 1, by omega, by go_num, HC2, ⟨by rw [HGO.out]; exact hO2⟩, ⟨hB2⟩⟩, by simp [intOf]; omega⟩
          · obtain rfl : n = l.length := by omega
            have hw : IntKind.i64.wrap ((m : Int) + (l.length : Int)) = (m : Int) + (l.length : Int) := by rw [IntKind.wrap_i64]; omega
            have hno : clash (g.lst k) m l = false := by rw [← clashK_all]; exact HCL.out
            have hE1 := HE0.out
            rw [hno, if_neg (by decide)] at hE1
            rw [grownK_all] at HO
            obtain ⟨X, dd, rfl⟩ := Sl.form HO.out.sl
            by_cases h6 : 60 < (m : Int) + (l.length : Int)
            · rw [if_pos h6] at hE1
              have HE3 := Aside.mk (take_no hE1 (by decide))
              have g6 : decide (60 < (m : Int) + (l.length : Int)) = true := decide_eq_true h6
              clear hno hE1 h6
              go_wp2_with fail
              go_ret2
              exact ⟨by rw [HE3.out.1, HE3.out.2.2]; rfl, by rw [HE3.out.2.1]; exact .below HG.out HB.out⟩
            · rw [if_neg h6] at hE1
              have g6 : decide (60 < (m : Int) + (l.length : Int)) = false := decide_eq_false h6
              have e1 : takeG g k m l = { g with has := g.has.set k (longer (g.lst k) m l) } := if_pos hE1
              have e2 : takeN g k m l = ((longer (g.lst k) m l).length : Int) := if_pos hE1
              have HE := Aside.mk (And.intro e1 (And.intro e2 hE1))
              have HQ := Aside.mk (HA.out.bk.below HB.out)
              have q2 := Bk.two HQ.out
              have fz := (HA.out.hh.below HB.out).frozen
              have xk : wr.cell? ⟨hm, k, none⟩ = some (.slice A (g.lst k).length c) := cell_below HB.out x0
              clear hno hE1 e1 e2 h6
              go_wp2_with fail
              go_ret2
              exact ⟨by rw [HE.out.2.1, HE.out.2.2]; rfl, by rw [HE.out.1]; exact HA.out.lay HB.out k (HO.out.sl.mono fun j hj hl => hj.elim False.elim fun hj => .inr (HO.out.lt j hj).1)⟩
end Go.Proofs.WK
