/-
  Package rule and what the reference says of rules (P10 to P13), without Sees and May.
-/
import Derived.Test.YtljjiicjnoljbaaDoorDat
import Derived.BigQuiet
import Derived.Test.YtljjiicjnoljbaaDoorRole
import Derived.Test.YtljjiicjnoljbaaDoorWk0
import Derived.Test.YtljjiicjnoljbaaDoorPl0
namespace Go.Proofs.WK
open Go.RowKit Rp
def rulErr (r : Rul) : Int := if -1 ≤ r.role ∧ r.role ≤ 7 ∧ -1 ≤ r.why ∧ r.why ≤ 3 ∧ 0 ≤ r.frm ∧ r.til ≤ 1000 ∧ 0 ≤ r.cats ∧ r.cats ≤ 255 then (if r.frm < r.til then 0 else 3) else 1
abbrev rulV (r : Rul) : Value := .agg #[.int .i64 r.role, .int .i64 r.why, .int .i64 r.frm, .int .i64 r.til, .int .i64 r.cats, .bool r.allow]
abbrev whoV (q : Who) : Value := .agg #[.int .i64 q.role, .int .i64 q.why, .int .i64 q.time]
theorem rul_bad {r : Rul} (h : ¬ (-1 ≤ r.role ∧ r.role ≤ 7 ∧ -1 ≤ r.why ∧ r.why ≤ 3 ∧ 0 ≤ r.frm ∧ r.til ≤ 1000 ∧ 0 ≤ r.cats ∧ r.cats ≤ 255)) : rulErr r = 1 := if_neg h
theorem rul_form {r : Rul} (h : -1 ≤ r.role ∧ r.role ≤ 7 ∧ -1 ≤ r.why ∧ r.why ≤ 3 ∧ 0 ≤ r.frm ∧ r.til ≤ 1000 ∧ 0 ≤ r.cats ∧ r.cats ≤ 255) (h2 : ¬ r.frm < r.til) : rulErr r = 3 := by rw [rulErr, if_pos h, if_neg h2]
theorem rul_ok {r : Rul} (h : -1 ≤ r.role ∧ r.role ≤ 7 ∧ -1 ≤ r.why ∧ r.why ≤ 3 ∧ 0 ≤ r.frm ∧ r.til ≤ 1000 ∧ 0 ≤ r.cats ∧ r.cats ≤ 255) (h2 : r.frm < r.til) : rulErr r = 0 := by rw [rulErr, if_pos h, if_pos h2]
theorem rul_of_ok {r : Rul} (h : rulErr r = 0) : -1 ≤ r.role ∧ r.role ≤ 7 ∧ -1 ≤ r.why ∧ r.why ≤ 3 ∧ 0 ≤ r.frm ∧ r.til ≤ 1000 ∧ 0 ≤ r.cats ∧ r.cats ≤ 255 ∧ r.frm < r.til := by
  unfold rulErr at h
  split at h
  · split at h
    · rename_i h1 h2
      exact ⟨h1.1, h1.2.1, h1.2.2.1, h1.2.2.2.1, h1.2.2.2.2.1, h1.2.2.2.2.2.1, h1.2.2.2.2.2.2.1, h1.2.2.2.2.2.2.2, h2⟩
    · cases h
  · cases h
set_option maxHeartbeats 1600000 in
set_option maxRecDepth 100000 in
theorem ruleOne (r : Rul) (w : World) : Calls Tryd.prog 108 #[rulV r] w fun e w' => e = .returned (.int .i64 (rulErr r)) ∧ Below w.heap.size w w' := by
  rcases (by omega : r.role < -1 ∨ (-1 ≤ r.role ∧ 8 ≤ r.role) ∨ ((-1 ≤ r.role ∧ r.role < 8) ∧ r.why < -1) ∨ ((-1 ≤ r.role ∧ r.role < 8) ∧ -1 ≤ r.why ∧ 4 ≤ r.why) ∨ ((-1 ≤ r.role ∧ r.role < 8) ∧ (-1 ≤ r.why ∧ r.why < 4) ∧ r.frm < 0) ∨ ((-1 ≤ r.role ∧ r.role < 8) ∧ (-1 ≤ r.why ∧ r.why < 4) ∧ 0 ≤ r.frm ∧ 1000 < r.til) ∨ ((-1 ≤ r.role ∧ r.role < 8) ∧ (-1 ≤ r.why ∧ r.why < 4) ∧ 0 ≤ r.frm ∧ r.til ≤ 1000)) with h | h | h | h | h | h | h
  case inr.inr.inr.inr.inr.inr =>
    cases hc : decide (0 ≤ r.cats ∧ r.cats ≤ 255)
    · have H := Aside.mk (rul_bad (r := r) (by have := of_decide_eq_false hc; omega))
      go_enter Tryd.func108, Tryd.ntmps108
      go_wp2_with (go_at_call 64; refine (labelCats _ _).mono ?_; rw [hc]; rintro e w' ⟨rfl, rfl⟩)
      go_ret
      exact ⟨by rw [H.out]; rfl, (Below.refl _ _).alloc (Nat.le_refl _) _⟩
    · have hc2 := of_decide_eq_true hc
      by_cases h2 : r.frm < r.til
      · have H := Aside.mk (rul_ok (r := r) (by omega) h2)
        go_enter Tryd.func108, Tryd.ntmps108
        go_wp2_with (go_at_call 64; refine (labelCats _ _).mono ?_; rw [hc]; rintro e w' ⟨rfl, rfl⟩)
        go_ret
        exact ⟨by rw [H.out]; rfl, (Below.refl _ _).alloc (Nat.le_refl _) _⟩
      · have H := Aside.mk (rul_form (r := r) (by omega) h2)
        go_enter Tryd.func108, Tryd.ntmps108
        go_wp2_with (go_at_call 64; refine (labelCats _ _).mono ?_; rw [hc]; rintro e w' ⟨rfl, rfl⟩)
        go_ret
        exact ⟨by rw [H.out]; rfl, (Below.refl _ _).alloc (Nat.le_refl _) _⟩
  all_goals
    have H := Aside.mk (rul_bad (r := r) (by omega))
    go_enter Tryd.func108, Tryd.ntmps108
    go_wp2_with fail
    go_ret
    exact ⟨by rw [H.out]; rfl, (Below.refl _ _).alloc (Nat.le_refl _) _⟩
theorem rul_iff {b1 b2 b5 : Bool} {r : Rul} (h1 : decide (-1 ≤ r.role ∧ r.role ≤ 7) = b1) (h2 : decide (-1 ≤ r.why ∧ r.why ≤ 3) = b2) (h5 : decide (0 ≤ r.cats ∧ r.cats ≤ 255) = b5) :
    rulErr r = if (b1 && b2 && decide (0 ≤ r.frm) && decide (r.til ≤ 1000) && b5) = true then (if r.frm < r.til then 0 else 3) else 1 := by
  subst h1 h2 h5
  unfold rulErr
  simp only [Bool.and_eq_true, decide_eq_true_eq, and_assoc]
set_option maxHeartbeats 1600000 in
set_option maxRecDepth 100000 in
theorem refRule (r : Rul) (w : World) : Calls Tryd.prog 107 #[rulV r] w fun e w' => e = .returned (.int .i64 (rulErr r)) ∧ Below w.heap.size w w' := by
  cases h1 : decide (-1 ≤ r.role ∧ r.role ≤ 7)
  · have H := Aside.mk (show rulErr r = 1 by rw [rul_iff h1 rfl rfl]; simp)
    go_enter Tryd.func107, Tryd.ntmps107
    go_wp2_with (go_at_call 60; refine (within _ _ _ _).mono ?_; rw [h1]; rintro e w' ⟨rfl, rfl⟩)
    go_ret
    exact ⟨by rw [H.out]; rfl, (Below.refl _ _).alloc (Nat.le_refl _) _⟩
  · cases h2 : decide (-1 ≤ r.why ∧ r.why ≤ 3)
    · have H := Aside.mk (show rulErr r = 1 by rw [rul_iff h1 h2 rfl]; simp)
      go_enter Tryd.func107, Tryd.ntmps107
      go_wp2_with (go_at_call 60; refine (within _ _ _ _).mono ?_; (first | rw [h1] | rw [h2]); rintro e w' ⟨rfl, rfl⟩)
      go_ret
      exact ⟨by rw [H.out]; rfl, (Below.refl _ _).alloc (Nat.le_refl _) _⟩
    · rcases (by omega : r.frm < 0 ∨ (0 ≤ r.frm ∧ 1000 < r.til) ∨ (0 ≤ r.frm ∧ r.til ≤ 1000)) with h | h | h
      case inr.inr =>
        cases h5 : decide (0 ≤ r.cats ∧ r.cats ≤ 255)
        · have H := Aside.mk (show rulErr r = 1 by rw [rul_iff h1 h2 h5]; simp)
          go_enter Tryd.func107, Tryd.ntmps107
          go_wp2_with (first | (go_at_call 60; refine (within _ _ _ _).mono ?_; (first | rw [h1] | rw [h2]); rintro e w' ⟨rfl, rfl⟩) | (go_at_call 36; refine (refCats _ _).mono ?_; rw [h5]; rintro e w' ⟨rfl, rfl⟩))
          go_ret
          exact ⟨by rw [H.out]; rfl, (Below.refl _ _).alloc (Nat.le_refl _) _⟩
        · have e : rulErr r = if r.frm < r.til then 0 else 3 := by rw [rul_iff h1 h2 h5]; simp [h]
          by_cases hf : r.frm < r.til
          · have H := Aside.mk (e.trans (if_pos hf))
            clear e
            go_enter Tryd.func107, Tryd.ntmps107
            go_wp2_with (first | (go_at_call 60; refine (within _ _ _ _).mono ?_; (first | rw [h1] | rw [h2]); rintro e w' ⟨rfl, rfl⟩) | (go_at_call 36; refine (refCats _ _).mono ?_; rw [h5]; rintro e w' ⟨rfl, rfl⟩))
            go_ret
            exact ⟨by rw [H.out]; rfl, (Below.refl _ _).alloc (Nat.le_refl _) _⟩
          · have H := Aside.mk (e.trans (if_neg hf))
            clear e
            go_enter Tryd.func107, Tryd.ntmps107
            go_wp2_with (first | (go_at_call 60; refine (within _ _ _ _).mono ?_; (first | rw [h1] | rw [h2]); rintro e w' ⟨rfl, rfl⟩) | (go_at_call 36; refine (refCats _ _).mono ?_; rw [h5]; rintro e w' ⟨rfl, rfl⟩))
            go_ret
            exact ⟨by rw [H.out]; rfl, (Below.refl _ _).alloc (Nat.le_refl _) _⟩
      all_goals
        have H := Aside.mk (show rulErr r = 1 by rw [rul_iff h1 h2 rfl]; simp; omega)
        go_enter Tryd.func107, Tryd.ntmps107
        go_wp2_with (go_at_call 60; refine (within _ _ _ _).mono ?_; (first | rw [h1] | rw [h2]); rintro e w' ⟨rfl, rfl⟩)
        go_ret
        exact ⟨by rw [H.out]; rfl, (Below.refl _ _).alloc (Nat.le_refl _) _⟩
def rulesErr (l : List Rul) : Int := if 20 < l.length then 2 else firstErr rulErr l
set_option maxHeartbeats 1600000 in
set_option maxRecDepth 100000 in
theorem ruleCheck (A : Option Addr) (c : Nat) (l : List Rul) (ok : Nat → Prop) (w : World) (hr : rulR.Row w ok A l) (hc : l.length ≤ 9223372036854775807) :
    Calls Tryd.prog 75 #[.slice A l.length c] w fun e w' => e = .returned (.int .i64 (rulesErr l)) ∧ Below w.heap.size w w' := by
  have HR := Aside.mk hr
  clear hr
  by_cases h20 : 20 < l.length
  · have H := Aside.mk (show rulesErr l = 2 from if_pos h20)
    go_enter Tryd.func75, Tryd.ntmps75
    go_wp2_with fail
    go_ret
    exact ⟨by rw [H.out]; rfl, Below.refl _ _⟩
  · have H := Aside.mk (show rulesErr l = firstErr rulErr l from if_neg h20)
    have g20 : decide ((20 : Int) < (l.length : Int)) = false := by simp; omega
    go_enter Tryd.func75, Tryd.ntmps75
    go_wp2_with fail
    go_loopw [11] (fun i wr => ∃ k : Nat, k ≤ l.length ∧ i = .int .i64 k ∧ Aside (firstErr rulErr (l.take k) = 0) ∧ Aside (Below w.heap.size w wr)) (fun i _ => l.length - (intOf i).toNat)
    case atStart => exact ⟨0, Nat.zero_le _, rfl, ⟨rfl⟩, ⟨Below.refl _ _⟩⟩
    case round =>
      obtain ⟨k, hk, rfl, HK, HB⟩ := hrel
      by_cases hlt : k < l.length
      · obtain ⟨ad, rfl, hlt2, x0, x1, x2, x3, x4, x5⟩ := rul_at (HR.out.below HB.out) hlt
        have hS := Aside.mk (firstErr_step (f := rulErr) hlt HK.out)
        by_cases he : rulErr l[k] = 0
        · have HT := Aside.mk (hS.out.trans he)
          go_wp2_with fail
          refine (ruleOne l[k] _).mono ?_
          rw [he]
          rintro e w2 ⟨rfl, hb⟩
          have HB2 := Aside.mk (below_step (HB.out.alloc HB.out.size _) hb)
          clear hb
          go_wp2_with fail
          refine ⟨⟨k + 1, by omega, by go_num, HT, HB2⟩, by simp [intOf]; omega⟩
        · have HT := Aside.mk (firstErr_hit (f := rulErr) hlt HK.out he)
          have hb0 : (rulErr l[k] != 0) = true := by simp [he]
          clear he
          go_wp2_with fail
          refine (ruleOne l[k] _).mono ?_
          rintro e w2 ⟨rfl, hb⟩
          have HB2 := Aside.mk (below_step (HB.out.alloc HB.out.size _) hb)
          clear hb
          go_wp2_with fail
          go_ret
          exact ⟨by rw [H.out, HT.out]; rfl, HB2.out⟩
      · obtain rfl : k = l.length := by omega
        have HT := Aside.mk (show firstErr rulErr l = 0 by have := HK.out; rwa [List.take_length] at this)
        go_wp2_with fail
        go_ret
        exact ⟨by rw [H.out, HT.out]; rfl, HB.out⟩
set_option maxHeartbeats 1600000 in
set_option maxRecDepth 100000 in
theorem refRules (A : Option Addr) (c : Nat) (l : List Rul) (ok : Nat → Prop) (w : World) (hr : rulR.Row w ok A l) (hc : l.length ≤ 9223372036854775807) :
    Calls Tryd.prog 73 #[.slice A l.length c] w fun e w' => e = .returned (.int .i64 (rulesErr l)) ∧ Below w.heap.size w w' := by
  have HR := Aside.mk hr
  clear hr
  by_cases h20 : 20 < l.length
  · have H := Aside.mk (show rulesErr l = 2 from if_pos h20)
    go_enter Tryd.func73, Tryd.ntmps73
    go_wp2_with fail
    go_ret
    exact ⟨by rw [H.out]; rfl, Below.refl _ _⟩
  · have H := Aside.mk (show rulesErr l = firstErr rulErr l from if_neg h20)
    have g20 : decide ((20 : Int) < (l.length : Int)) = false := by simp; omega
    go_enter Tryd.func73, Tryd.ntmps73
    go_wp2_with fail
    go_loopw [11] (fun i wr => ∃ k : Nat, k ≤ l.length ∧ i = .int .i64 k ∧ Aside (firstErr rulErr (l.take k) = 0) ∧ Aside (Below w.heap.size w wr)) (fun i _ => l.length - (intOf i).toNat)
    case atStart => exact ⟨0, Nat.zero_le _, rfl, ⟨rfl⟩, ⟨Below.refl _ _⟩⟩
    case round =>
      obtain ⟨k, hk, rfl, HK, HB⟩ := hrel
      by_cases hlt : k < l.length
      · obtain ⟨ad, rfl, hlt2, x0, x1, x2, x3, x4, x5⟩ := rul_at (HR.out.below HB.out) hlt
        have hS := Aside.mk (firstErr_step (f := rulErr) hlt HK.out)
        by_cases he : rulErr l[k] = 0
        · have HT := Aside.mk (hS.out.trans he)
          go_wp2_with fail
          refine (refRule l[k] _).mono ?_
          rw [he]
          rintro e w2 ⟨rfl, hb⟩
          have HB2 := Aside.mk (below_step (HB.out.alloc HB.out.size _) hb)
          clear hb
          go_wp2_with fail
          refine ⟨⟨k + 1, by omega, by go_num, HT, HB2⟩, by simp [intOf]; omega⟩
        · have HT := Aside.mk (firstErr_hit (f := rulErr) hlt HK.out he)
          have hb0 : (rulErr l[k] != 0) = true := by simp [he]
          clear he
          go_wp2_with fail
          refine (refRule l[k] _).mono ?_
          rintro e w2 ⟨rfl, hb⟩
          have HB2 := Aside.mk (below_step (HB.out.alloc HB.out.size _) hb)
          clear hb
          go_wp2_with fail
          go_ret
          exact ⟨by rw [H.out, HT.out]; rfl, HB2.out⟩
      · obtain rfl : k = l.length := by omega
        have HT := Aside.mk (show firstErr rulErr l = 0 by have := HK.out; rwa [List.take_length] at this)
        go_wp2_with fail
        go_ret
        exact ⟨by rw [H.out, HT.out]; rfl, HB.out⟩
def whoOk (q : Who) : Bool := decide (0 ≤ q.role ∧ q.role ≤ 7) && decide (0 ≤ q.why ∧ q.why ≤ 3) && decide (0 ≤ q.time ∧ q.time ≤ 999)
theorem whoOk_iff {q : Who} : whoOk q = true ↔ (0 ≤ q.role ∧ q.role ≤ 7) ∧ (0 ≤ q.why ∧ q.why ≤ 3) ∧ 0 ≤ q.time ∧ q.time ≤ 999 := by
  unfold whoOk
  simp only [Bool.and_eq_true, decide_eq_true_eq, and_assoc]
set_option maxHeartbeats 1600000 in
set_option maxRecDepth 100000 in
theorem ruleWho (q : Who) (w : World) : Calls Tryd.prog 76 #[whoV q] w fun e w' => e = .returned (.bool (whoOk q)) ∧ Below w.heap.size w w' := by
  rcases (by omega : q.role < 0 ∨ (0 ≤ q.role ∧ 8 ≤ q.role) ∨ ((0 ≤ q.role ∧ q.role < 8) ∧ q.why < 0) ∨ ((0 ≤ q.role ∧ q.role < 8) ∧ 0 ≤ q.why ∧ 4 ≤ q.why) ∨ ((0 ≤ q.role ∧ q.role < 8) ∧ (0 ≤ q.why ∧ q.why < 4) ∧ q.time < 0) ∨ ((0 ≤ q.role ∧ q.role < 8) ∧ (0 ≤ q.why ∧ q.why < 4) ∧ 0 ≤ q.time ∧ 1000 ≤ q.time) ∨ ((0 ≤ q.role ∧ q.role < 8) ∧ (0 ≤ q.why ∧ q.why < 4) ∧ 0 ≤ q.time ∧ q.time < 1000)) with h | h | h | h | h | h | h
  case inr.inr.inr.inr.inr.inr =>
    have H := Aside.mk (whoOk_iff.2 (by omega : (0 ≤ q.role ∧ q.role ≤ 7) ∧ (0 ≤ q.why ∧ q.why ≤ 3) ∧ 0 ≤ q.time ∧ q.time ≤ 999))
    go_enter Tryd.func76, Tryd.ntmps76
    go_wp2_with fail
    go_ret
    exact ⟨by rw [H.out]; rfl, (Below.refl _ _).alloc (Nat.le_refl _) _⟩
  case inr.inr.inr.inr.inr.inl =>
    have H := Aside.mk (show whoOk q = false from Bool.eq_false_iff.2 fun h2 => by have := whoOk_iff.1 h2; omega)
    have g : decide (q.time < 1000) = false := by simp; omega
    go_enter Tryd.func76, Tryd.ntmps76
    go_wp2_with fail
    go_ret
    exact ⟨by rw [H.out]; rfl, (Below.refl _ _).alloc (Nat.le_refl _) _⟩
  all_goals
    have H := Aside.mk (show whoOk q = false from Bool.eq_false_iff.2 fun h2 => by have := whoOk_iff.1 h2; omega)
    go_enter Tryd.func76, Tryd.ntmps76
    go_wp2_with fail
    go_ret
    exact ⟨by rw [H.out]; rfl, (Below.refl _ _).alloc (Nat.le_refl _) _⟩
set_option maxHeartbeats 1600000 in
set_option maxRecDepth 100000 in
theorem refWho (q : Who) (w : World) : Calls Tryd.prog 74 #[whoV q] w fun e w' => e = .returned (.bool (whoOk q)) ∧ Below w.heap.size w w' := by
  cases h1 : decide (0 ≤ q.role ∧ q.role ≤ 7) <;> cases h2 : decide (0 ≤ q.why ∧ q.why ≤ 3) <;> cases h3 : decide (0 ≤ q.time ∧ q.time ≤ 999)
  all_goals
    have H := Aside.mk (show whoOk q = _ by unfold whoOk; rw [h1, h2, h3])
    go_enter Tryd.func74, Tryd.ntmps74
    go_wp2_with (go_at_call 60; refine (within _ _ _ _).mono ?_; (first | rw [h1] | rw [h2] | rw [h3]); rintro e w' ⟨rfl, rfl⟩)
    go_ret
    exact ⟨by rw [H.out]; rfl, (Below.refl _ _).alloc (Nat.le_refl _) _⟩
end Go.Proofs.WK
