/-
  (*wyref.Group).Is, Send.
-/
import Derived.Test.YtljjiicjnoljbaaGrpB
namespace Go.Proofs.WK
open Go.RowKit Rp
variable {w : World} {G : Nat → Prop} {gm : Nat} {g : Grp}
set_option maxRecDepth 100000 in
theorem refIs (i : Int) (h : RGrpIs w G gm g) (hg : GrpOk g) : Calls Try.prog 91 #[.pointer (some ⟨gm, 0, none⟩), .int .i64 i] w fun e w' => e = .returned (.bool (grpIs g i)) ∧ w = w' := by
  obtain ⟨hm, km, hs, h⟩ := h
  have q := Bk.two h.bk
  have p0 : (0 : Int) ≤ (g.has.length : Int) := by omega
  have p1 : (g.has.length : Int) ≤ 5 := by have := hg.many; omega
  have HE : Aside ((decide (1 ≤ i) && decide (i ≤ (g.has.length : Int) - 1)) = grpIs g i) := ⟨by unfold grpIs; congr 2; apply propext; omega⟩
  clear h hg
  go_enter Try.func91, Try.ntmps91
  go_wp2_with (go_at_call 59; refine (within _ _ _ _).mono ?_; rintro e w' ⟨rfl, rfl⟩)
  go_ret
  exact ⟨by rw [HE.out]; rfl, rfl⟩
set_option maxRecDepth 100000 in
theorem refSend (i f : Int) (h : RGrpIs w G gm g) (hg : GrpOk g) : Calls Try.prog 46 #[.pointer (some ⟨gm, 0, none⟩), .int .i64 i, .int .i64 f] w fun e w' => ∃ v, e = .returned (.tuple #[v, .int .i64 (sendE g i f)]) ∧ str.Sl w G v (sendV g i f) ∧ w = w' := by
  have HI := Aside.mk (refIs i h hg)
  obtain ⟨hm, km, hs, h⟩ := h
  have q := Bk.two h.bk
  have hpos : 0 < g.has.length := by have := hg.many; omega
  have p1 : (0 : Int) < (g.has.length : Int) := by omega
  obtain ⟨A, c, x0, hc, hr⟩ := h.at_ hpos
  cases hi : grpIs g i with
  | false =>
    have e : sendE g i f = 4 := if_pos hi
    rw [sendV, e, if_neg (by decide)]
    have HH := Aside.mk hi
    clear h e hi hr hg
    go_enter Try.func46, Try.ntmps46
    go_wp2_with fail
    refine HI.out.mono ?_
    rw [HH.out]
    rintro e w1 ⟨rfl, rfl⟩
    go_wp2_with fail
    go_ret2
    exact ⟨_, rfl, Sl.nil _ _ _, rfl⟩
  | true =>
    have HH := Aside.mk hi
    by_cases h0 : f < 0 ∨ ((g.lst 0).length : Int) < f
    · have e : sendE g i f = 1 := by rw [sendE, if_neg (by simp [hi]), if_pos h0]
      rw [sendV, e, if_neg (by decide)]
      have HW : Aside (decide (0 ≤ f ∧ f ≤ ((g.lst 0).length : Int)) = false) := ⟨decide_eq_false (by omega)⟩
      clear h e hi hr hg h0
      go_enter Try.func46, Try.ntmps46
      go_wp2_with fail
      refine HI.out.mono ?_
      rw [HH.out]
      rintro e w1 ⟨rfl, rfl⟩
      go_wp2_with (go_at_call 59; refine (within _ _ _ _).mono ?_; rw [HW.out]; rintro e w' ⟨rfl, rfl⟩)
      go_ret2
      exact ⟨_, rfl, Sl.nil _ _ _, rfl⟩
    · obtain ⟨k, rfl⟩ : ∃ k : Nat, f = (k : Int) := ⟨f.toNat, by omega⟩
      have e : sendE g i k = 0 := by rw [sendE, if_neg (by simp [hi]), if_neg h0]
      have e2 : sendV g i k = (g.lst 0).drop k := if_pos e
      rw [e2, e]
      have HW : Aside (decide (0 ≤ (k : Int) ∧ (k : Int) ≤ ((g.lst 0).length : Int)) = true) := ⟨decide_eq_true (by omega)⟩
      have q0 : (0 : Int) ≤ (k : Int) := by omega
      have q1 : (k : Int) ≤ ((g.lst 0).length : Int) := by omega
      have q2 : ((g.lst 0).length : Int) ≤ (c : Int) := by omega
      have hcut := hr.cut (n := k) (by omega)
      rw [show str.sz = 1 from rfl, Nat.mul_one] at hcut
      have HCUT := Aside.mk hcut
      have HEND := Aside.mk (fun (e : c = k) (B : Option Addr) => hr.end_ (B := B) (n := k) (c := c) (by omega) e)
      have HKC := Aside.mk (show k ≤ (g.lst 0).length ∧ (g.lst 0).length ≤ c by omega)
      clear h e e2 hi hr hg h0 hcut
      go_enter Try.func46, Try.ntmps46
      go_wp2_with fail
      refine HI.out.mono ?_
      rw [HH.out]
      rintro e w1 ⟨rfl, rfl⟩
      go_wp2_with (go_at_call 59; refine (within _ _ _ _).mono ?_; rw [HW.out]; rintro e w' ⟨rfl, rfl⟩)
      all_goals
        go_ret2
        have hK := HKC.out
        exact ⟨_, rfl, ⟨_, _, by rw [List.length_drop]; rfl, by rw [List.length_drop]; omega, by first | exact HCUT.out | exact HEND.out (by assumption) _⟩, rfl⟩
end Go.Proofs.WK
