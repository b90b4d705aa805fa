/-
  (*group.Group).is, Log, Send.
-/
import Derived.Test.YtljjiicjnoljbaaGrpM
import Derived.Test.YtljjiicjnoljbaaStoCp
namespace Go.Proofs.WK
open Go.RowKit Rp
def logE (g : Grp) (i : Int) : Int := if i < 0 ∨ (g.has.length : Int) ≤ i then 4 else 0
def logV (g : Grp) (i : Int) : List ByteArray := if logE g i = 0 then g.lst i.toNat else []
variable {w : World} {G : Nat → Prop} {ga : Nat} {g : Grp}
set_option maxRecDepth 100000 in
theorem groupIs (i : Int) (h : GrpIs w G ga g) : Calls Try.prog 89 #[.pointer (some ⟨ga, 0, none⟩), .int .i64 i] w fun e w' => e = .returned (.bool (grpIs g i)) ∧ w = w' := by
  obtain ⟨hb, kb, vl, v0, hs, h⟩ := h
  have q := Bk.quad h.bk
  clear h
  unfold grpIs
  by_cases h1 : (1 : Int) ≤ i
  · rw [decide_eq_true h1, Bool.true_and]
    have g1 : decide (1 ≤ i) = true := decide_eq_true h1
    clear h1
    go_enter Try.func89, Try.ntmps89
    go_wp2_with fail
    go_ret
    exact ⟨rfl, rfl⟩
  · rw [decide_eq_false h1, Bool.false_and]
    have g1 : decide (1 ≤ i) = false := decide_eq_false h1
    clear h1
    go_enter Try.func89, Try.ntmps89
    go_wp2_with fail
    go_ret
    exact ⟨rfl, rfl⟩
set_option maxRecDepth 100000 in
theorem groupLog (i : Int) (h : GrpIs w G ga g) (hg : GrpOk g) : Calls Try.prog 54 #[.pointer (some ⟨ga, 0, none⟩), .int .i64 i] w fun e w' => ∃ v, e = .returned (.tuple #[v, .int .i64 (logE g i)]) ∧ str.Sl w' (fun k => w.heap.size ≤ k) v (logV g i) ∧ Below w.heap.size w w' := by
  obtain ⟨hb, kb, vl, v0, hs, h⟩ := h
  have q := Bk.quad h.bk
  by_cases h0 : i < 0
  · have e : logE g i = 4 := if_pos (.inl h0)
    rw [logV, e, if_neg (by decide)]
    have g1 : decide (i < 0) = true := decide_eq_true h0
    clear h h0 e
    go_enter Try.func54, Try.ntmps54
    go_wp2_with fail
    go_ret2
    exact ⟨_, rfl, Sl.nil _ _ _, Below.refl _ _⟩
  · obtain ⟨k, rfl⟩ : ∃ k : Nat, i = (k : Int) := ⟨i.toNat, by omega⟩
    have g1 : decide ((k : Int) < 0) = false := by simp
    by_cases hk : k < g.has.length
    · have e : logE g k = 0 := if_neg (by omega)
      have e2 : logV g k = g.lst k := if_pos e
      rw [e2, e]
      have p0 : (0 : Int) ≤ (k : Int) := by omega
      have p1 : (k : Int) < (g.has.length : Int) := by omega
      have g2 : decide (g.has.length ≤ k) = false := by simp; omega
      obtain ⟨A, c, x0, x1, x2⟩ := h.at_ hk
      have HR := Aside.mk x2
      have HL : Aside ((g.lst k).length * 16 ≤ 140737488355328) := ⟨by have := hg.len k; omega⟩
      clear h h0 e e2 x2 hg hk
      go_enter Try.func54, Try.ntmps54
      go_wp2_with fail
      refine (cloneS A _ c (g.lst k) _ _ HR.out rfl HL.out).mono ?_
      rintro e w1 ⟨v, rfl, ho, hb⟩
      have HS := Aside.mk (ho.sl.mono (ok' := fun j => w.heap.size ≤ j) fun j hj _ => hj.elim False.elim fun hj => (ho.lt j hj).1)
      have HB := Aside.mk hb
      obtain ⟨X, d, rfl⟩ := Sl.form ho.sl
      clear ho hb
      go_wp2_with fail
      go_ret2
      exact ⟨_, rfl, HS.out, HB.out⟩
    · have e : logE g k = 4 := if_pos (by omega)
      rw [logV, e, if_neg (by decide)]
      have g2 : decide (g.has.length ≤ k) = true := by simp; omega
      clear h h0 e hk
      go_enter Try.func54, Try.ntmps54
      go_wp2_with fail
      go_ret2
      exact ⟨_, rfl, Sl.nil _ _ _, Below.refl _ _⟩
set_option maxRecDepth 100000 in
theorem groupSend (i f : Int) (h : GrpIs w G ga g) (hg : GrpOk g) : Calls Try.prog 45 #[.pointer (some ⟨ga, 0, none⟩), .int .i64 i, .int .i64 f] w fun e w' => ∃ v, e = .returned (.tuple #[v, .int .i64 (sendE g i f)]) ∧ str.Sl w' (fun k => w.heap.size ≤ k) v (sendV g i f) ∧ Below w.heap.size w w' := by
  have HI := Aside.mk (groupIs i h)
  obtain ⟨hb, kb, vl, v0, hs, h⟩ := h
  have q := Bk.quad h.bk
  obtain ⟨AL, cl, rfl, hcl, hrl⟩ := h.ol.sl
  cases hi : grpIs g i with
  | false =>
    have e : sendE g i f = 4 := if_pos hi
    rw [sendV, e, if_neg (by decide)]
    have HH := Aside.mk hi
    clear h e hi hcl hrl
    go_enter Try.func45, Try.ntmps45
    go_wp2_with fail
    refine HI.out.mono ?_
    rw [HH.out]
    rintro e w1 ⟨rfl, rfl⟩
    go_wp2_with fail
    go_ret2
    exact ⟨_, rfl, Sl.nil _ _ _, Below.refl _ _⟩
  | true =>
    have HH := Aside.mk hi
    by_cases h0 : f < 0
    · have e : sendE g i f = 1 := by rw [sendE, if_neg (by simp [hi]), if_pos (.inl h0)]
      rw [sendV, e, if_neg (by decide)]
      have g1 : decide (f < 0) = true := decide_eq_true h0
      clear h h0 e hi hcl hrl
      go_enter Try.func45, Try.ntmps45
      go_wp2_with fail
      refine HI.out.mono ?_
      rw [HH.out]
      rintro e w1 ⟨rfl, rfl⟩
      go_wp2_with fail
      go_ret2
      exact ⟨_, rfl, Sl.nil _ _ _, Below.refl _ _⟩
    · obtain ⟨k, rfl⟩ : ∃ k : Nat, f = (k : Int) := ⟨f.toNat, by omega⟩
      have g1 : decide ((k : Int) < 0) = false := by simp
      by_cases hk : (g.lst 0).length < k
      · have e : sendE g i k = 1 := by rw [sendE, if_neg (by simp [hi]), if_pos (by omega)]
        rw [sendV, e, if_neg (by decide)]
        have g2 : decide ((g.lst 0).length < k) = true := by simp; omega
        clear h h0 e hi hk hcl hrl
        go_enter Try.func45, Try.ntmps45
        go_wp2_with fail
        refine HI.out.mono ?_
        rw [HH.out]
        rintro e w1 ⟨rfl, rfl⟩
        go_wp2_with fail
        go_ret2
        exact ⟨_, rfl, Sl.nil _ _ _, Below.refl _ _⟩
      · have e : sendE g i k = 0 := by rw [sendE, if_neg (by simp [hi]), if_neg (by omega)]
        have e2 : sendV g i k = (g.lst 0).drop k := if_pos e
        rw [e2, e]
        have g2 : decide ((g.lst 0).length < k) = false := by simp; omega
        have p0 : (0 : Int) ≤ (k : Int) := by omega
        have p1 : (k : Int) ≤ ((g.lst 0).length : Int) := by omega
        have p2 : ((g.lst 0).length : Int) ≤ (cl : Int) := by omega
        have hcut := hrl.cut (n := k) (by omega)
        rw [show str.sz = 1 from rfl, Nat.mul_one] at hcut
        have HCUT := Aside.mk hcut
        have HEND := Aside.mk (fun (e : cl = k) (B : Option Addr) => hrl.end_ (B := B) (n := k) (c := cl) (by omega) e)
        clear hcut
        have HL : Aside (((g.lst 0).drop k).length * 16 ≤ 140737488355328) := ⟨by have := hg.len 0; rw [List.length_drop]; omega⟩
        have HKC := Aside.mk (show k ≤ (g.lst 0).length ∧ (g.lst 0).length ≤ cl by omega)
        clear h h0 e e2 hi hk hcl hrl hg
        go_enter Try.func45, Try.ntmps45
        go_wp2_with fail
        refine HI.out.mono ?_
        rw [HH.out]
        rintro e w1 ⟨rfl, rfl⟩
        go_wp2_with fail
        all_goals
          refine (cloneS _ _ _ ((g.lst 0).drop k) _ _ (by first | exact HCUT.out | exact HEND.out (by assumption) _) (by rw [List.length_drop]) HL.out).mono ?_
          rintro e w1 ⟨v, rfl, ho, hb⟩
          have HS := Aside.mk (ho.sl.mono (ok' := fun j => w.heap.size ≤ j) fun j hj _ => hj.elim False.elim fun hj => (ho.lt j hj).1)
          have HB := Aside.mk hb
          obtain ⟨X, d, rfl⟩ := Sl.form ho.sl
          clear ho hb
          go_wp2_with fail
          go_ret2
          exact ⟨_, rfl, by have h := HS.out; rw [List.length_drop] at h; exact h, HB.out⟩
end Go.Proofs.WK
