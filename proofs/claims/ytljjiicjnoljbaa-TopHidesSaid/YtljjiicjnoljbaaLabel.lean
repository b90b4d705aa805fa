/-
  Package label, and what the reference says of labels (P3 to P6).
-/
import Derived.Test.YtljjiicjnoljbaaBits
import Derived.Test.YtljjiicjnoljbaaDat
import Derived.BigQuiet
namespace Go.Proofs.WK
open Go.RowKit Rp

def catsOk (n : Int) : Bool := decide (0 ≤ n) && decide (n < 256)
def labErr (l : Lab) : Int := if 0 ≤ l.level ∧ l.level ≤ 3 ∧ 0 ≤ l.cats ∧ l.cats ≤ 255 then 0 else 1
def pop (x : Int) : Int := (List.range 8).foldl (fun n i => n + x / 2 ^ i % 2) 0

theorem allBytes {p : Int → Prop} (h : ∀ m : Fin 256, p (m.val : Int)) : ∀ x : Int, 0 ≤ x → x ≤ 255 → p x := fun x h0 h1 => by
  have := h ⟨x.toNat, by omega⟩
  rwa [show ((⟨x.toNat, by omega⟩ : Fin 256).val : Int) = x from by simp; omega] at this
set_option maxRecDepth 100000 in
theorem ones64 (x : Int) (h0 : 0 ≤ x) (h1 : x ≤ 255) (w : World) : Calls Try.prog 97 #[.int .u64 x] w fun e w' => e = .returned (.int .i64 (pop x)) ∧ w = w' := by
  go_enter Try.func97, Try.ntmps97
  go_wp2
  go_ret
  refine ⟨congrArg Ending.returned (congrArg (Value.int IntKind.i64) ?_), rfl⟩
  revert h1 h0
  revert x
  refine allBytes ?_
  decide +kernel
theorem ones (x : Int) (h0 : 0 ≤ x) (h1 : x ≤ 255) (w : World) : Calls Try.prog 58 #[.int .u64 x] w fun e w' => e = .returned (.int .i64 (pop x)) ∧ w = w' := by
  go_enter Try.func58, Try.ntmps58
  go_wp2_with (go_at_call 97; refine (ones64 _ h0 h1 _).mono ?_; rintro e w' ⟨rfl, rfl⟩)
  go_ret
  exact ⟨rfl, rfl⟩

def labV (l : Lab) : Value := .agg #[.int .i64 l.level, .int .i64 l.cats]
theorem labCheck (l : Lab) (w : World) : Calls Try.prog 16 #[.agg #[.int .i64 l.level, .int .i64 l.cats]] w fun e w' => e = .returned (.int .i64 (labErr l)) ∧ Below w.heap.size w w' := by
  by_cases a0 : l.level < 0
  · have H := Aside.mk (show labErr l = 1 from if_neg (by omega))
    go_enter Try.func16, Try.ntmps16
    go_wp2_with fail
    go_ret
    exact ⟨by rw [H.out]; rfl, (Below.refl _ _).alloc (Nat.le_refl _) _⟩
  · by_cases a1 : 3 < l.level
    · have H := Aside.mk (show labErr l = 1 from if_neg (by omega))
      go_enter Try.func16, Try.ntmps16
      go_wp2_with fail
      go_ret
      exact ⟨by rw [H.out]; rfl, (Below.refl _ _).alloc (Nat.le_refl _) _⟩
    · cases hc : decide (0 ≤ l.cats ∧ l.cats ≤ 255) with
      | true =>
        have H := Aside.mk (show labErr l = 0 from if_pos (by have := of_decide_eq_true hc; omega))
        go_enter Try.func16, Try.ntmps16
        go_wp2_with (go_at_call 61; refine (labelCats _ _).mono ?_; rw [hc]; rintro e w' ⟨rfl, rfl⟩)
        go_ret
        exact ⟨by rw [H.out]; rfl, (Below.refl _ _).alloc (Nat.le_refl _) _⟩
      | false =>
        have H := Aside.mk (show labErr l = 1 from if_neg (by have := of_decide_eq_false hc; omega))
        go_enter Try.func16, Try.ntmps16
        go_wp2_with (go_at_call 61; refine (labelCats _ _).mono ?_; rw [hc]; rintro e w' ⟨rfl, rfl⟩)
        go_ret
        exact ⟨by rw [H.out]; rfl, (Below.refl _ _).alloc (Nat.le_refl _) _⟩
theorem refLabel (l : Lab) (w : World) : Calls Try.prog 15 #[.agg #[.int .i64 l.level, .int .i64 l.cats]] w fun e w' => e = .returned (.int .i64 (labErr l)) ∧ Below w.heap.size w w' := by
  cases hl : decide ((0 : Int) ≤ l.level ∧ l.level ≤ 3) <;> cases hc : decide (0 ≤ l.cats ∧ l.cats ≤ 255)
  all_goals
    have H := Aside.mk (show labErr l = if (decide ((0 : Int) ≤ l.level ∧ l.level ≤ 3) && decide (0 ≤ l.cats ∧ l.cats ≤ 255)) = true then 0 else 1 by unfold labErr; simp [and_assoc])
    rw [hl, hc] at H
    go_enter Try.func15, Try.ntmps15
    go_wp2_with (first | (go_at_call 59; refine (within _ _ _ _).mono ?_; rw [hl]; rintro e w' ⟨rfl, rfl⟩) | (go_at_call 60; refine (refCats _ _).mono ?_; rw [hc]; rintro e w' ⟨rfl, rfl⟩))
    go_ret
    exact ⟨by rw [H.out]; rfl, (Below.refl _ _).alloc (Nat.le_refl _) _⟩
def twoErr (a b : Lab) : Int := if labErr a = 0 then labErr b else labErr a
theorem labTwo (a b : Lab) (w : World) : Calls Try.prog 57 #[.agg #[.int .i64 a.level, .int .i64 a.cats], .agg #[.int .i64 b.level, .int .i64 b.cats]] w fun e w' => e = .returned (.int .i64 (twoErr a b)) ∧ Below w.heap.size w w' := by
  by_cases h : labErr a = 0
  · have H := Aside.mk (show twoErr a b = labErr b from if_pos h)
    go_enter Try.func57, Try.ntmps57
    go_wp2_with fail
    refine (labCheck a _).mono ?_
    rw [h]
    rintro e w1 ⟨rfl, hb⟩
    have HB := Aside.mk ((((Below.refl w.heap.size w).alloc (Nat.le_refl _) _).alloc (by simp) _).trans (hb.mono (by simp; omega)))
    obtain ⟨hc, hf⟩ := bcell hb
    clear hb
    go_wp2_with fail
    refine (labCheck b _).mono ?_
    rintro e w2 ⟨rfl, hb⟩
    have HB2 := Aside.mk (below_step HB.out hb)
    clear hb
    go_wp2_with fail
    go_ret
    exact ⟨by rw [H.out]; rfl, HB2.out⟩
  · have H := Aside.mk (show twoErr a b = labErr a from if_neg h)
    have hb0 : (labErr a != 0) = true := by simp [h]
    clear h
    go_enter Try.func57, Try.ntmps57
    go_wp2_with fail
    refine (labCheck a _).mono ?_
    rintro e w1 ⟨rfl, hb⟩
    have HB := Aside.mk ((((Below.refl w.heap.size w).alloc (Nat.le_refl _) _).alloc (by simp) _).trans (hb.mono (by simp; omega)))
    clear hb
    go_wp2_with fail
    go_ret
    exact ⟨by rw [H.out]; rfl, HB.out⟩
theorem lab_ok {l : Lab} (h : labErr l = 0) : 0 ≤ l.level ∧ l.level ≤ 3 ∧ 0 ≤ l.cats ∧ l.cats ≤ 255 := by
  unfold labErr at h
  split at h
  · assumption
  · cases h
theorem two_ok {a b : Lab} (h : twoErr a b = 0) : labErr a = 0 ∧ labErr b = 0 := by
  unfold twoErr at h
  split at h
  · rename_i h1; exact ⟨h1, h⟩
  · exact absurd h ‹_›
def belW (a b : Lab) : Bool := decide (a.level ≤ b.level) && part a.cats b.cats
def belowV (a b : Lab) : Bool := twoErr a b == 0 && belW a b
/-- label.Below. -/
theorem labBelow (a b : Lab) (w : World) : Calls Try.prog 10 #[.agg #[.int .i64 a.level, .int .i64 a.cats], .agg #[.int .i64 b.level, .int .i64 b.cats]] w fun e w' =>
    e = .returned (.tuple #[.bool (belowV a b), .int .i64 (twoErr a b)]) ∧ Below w.heap.size w w' := by
  by_cases h : twoErr a b = 0
  · obtain ⟨ha, hb⟩ := two_ok h
    obtain ⟨_, _, a2, a3⟩ := lab_ok ha
    obtain ⟨_, _, b2, b3⟩ := lab_ok hb
    have hp := part_andNot a2 a3 b2 b3
    clear ha hb
    rw [show belowV a b = (decide (a.level ≤ b.level) && part a.cats b.cats) from by rw [belowV, h]; rfl, h]
    cases hl : decide (a.level ≤ b.level)
    all_goals
      go_enter Try.func10, Try.ntmps10
      go_wp2_with fail
      refine (labTwo a b _).mono ?_
      rw [h]
      rintro e w1 ⟨rfl, hb⟩
      have HB := Aside.mk ((((Below.refl w.heap.size w).alloc (Nat.le_refl _) _).alloc (by simp) _).trans (hb.mono (by simp; omega)))
      obtain ⟨hc, hf⟩ := bcell hb
      clear hb
      go_wp2_with fail
      go_ret2
      exact ⟨by simp, HB.out⟩
  · have hb0 : (twoErr a b != 0) = true := by simp [h]
    have hb1 : (twoErr a b == 0) = false := by simp [h]
    rw [show belowV a b = false from by rw [belowV, hb1]; rfl]
    clear h
    go_enter Try.func10, Try.ntmps10
    go_wp2_with fail
    refine (labTwo a b _).mono ?_
    rintro e w1 ⟨rfl, hb⟩
    have HB := Aside.mk ((((Below.refl w.heap.size w).alloc (Nat.le_refl _) _).alloc (by simp) _).trans (hb.mono (by simp; omega)))
    clear hb
    go_wp2_with fail
    go_ret2
    exact ⟨rfl, HB.out⟩
theorem set_2 {w w1 : World} {o : Nat} {u : Value} (h : Below w.heap.size w w1) : Below w.heap.size w (w1.setCell { block := w.heap.size + 1 + 1, off := o } u) := h.setCell (Nat.le_add_right _ 2) u
def joinL (a b : Lab) : Lab := if twoErr a b = 0 then ⟨max a.level b.level, sumN 8 (fun i => bit a.cats i || bit b.cats i)⟩ else ⟨0, 0⟩
def meetL (a b : Lab) : Lab := if twoErr a b = 0 then ⟨min a.level b.level, sumN 8 (fun i => bit a.cats i && bit b.cats i)⟩ else ⟨0, 0⟩
theorem labJoin (a b : Lab) (w : World) : Calls Try.prog 11 #[.agg #[.int .i64 a.level, .int .i64 a.cats], .agg #[.int .i64 b.level, .int .i64 b.cats]] w fun e w' =>
    e = .returned (.tuple #[.agg #[.int .i64 (joinL a b).level, .int .i64 (joinL a b).cats], .int .i64 (twoErr a b)]) ∧ Below w.heap.size w w' := by
  by_cases h : twoErr a b = 0
  · obtain ⟨ha, hb⟩ := two_ok h
    obtain ⟨_, _, a2, a3⟩ := lab_ok ha
    obtain ⟨_, _, b2, b3⟩ := lab_ok hb
    have hj : joinL a b = ⟨max a.level b.level, _⟩ := if_pos h
    obtain ⟨x, hx⟩ := Int.eq_ofNat_of_zero_le a2
    obtain ⟨y, hy⟩ := Int.eq_ofNat_of_zero_le b2
    have hp := or_s x y 8 (by omega) (by omega) (by omega)
    rw [← hx, ← hy] at hp
    rw [hj, h, ← hp]
    clear hj ha hb hx hy
    go_enter Try.func11, Try.ntmps11
    go_wp2_with fail
    refine (labTwo a b _).mono ?_
    rw [h]
    rintro e w1 ⟨rfl, hb⟩
    have HB := Aside.mk (((((Below.refl w.heap.size w).alloc (Nat.le_refl _) _).alloc (by simp) _).alloc (by simp; omega) _).trans (hb.mono (by simp; omega)))
    obtain ⟨hc, hf⟩ := bcell hb
    clear hb
    go_wp2_with fail
    all_goals
      first
      | have hmx : max a.level b.level = a.level := by omega
        rw [hmx]
        refine bodyPost_ret (v := .tuple #[.agg #[.int .i64 a.level, .int .i64 (sumN 8 (fun i => or (bit a.cats i) (bit b.cats i)))], .int .i64 0]) ?_ rfl ⟨rfl, set_2 (set_2 HB.out)⟩
        simp [results, Try.results11, go_sem, hc]
      | have hmx : max a.level b.level = b.level := by omega
        rw [hmx]
        refine bodyPost_ret (v := .tuple #[.agg #[.int .i64 b.level, .int .i64 (sumN 8 (fun i => or (bit a.cats i) (bit b.cats i)))], .int .i64 0]) ?_ rfl ⟨rfl, set_2 (set_2 HB.out)⟩
        simp [results, Try.results11, go_sem, hc]
  · have hb0 : (twoErr a b != 0) = true := by simp [h]
    have hj : joinL a b = ⟨0, 0⟩ := if_neg h
    rw [hj]
    clear h hj
    go_enter Try.func11, Try.ntmps11
    go_wp2_with fail
    refine (labTwo a b _).mono ?_
    rintro e w1 ⟨rfl, hb⟩
    have HB := Aside.mk (((((Below.refl w.heap.size w).alloc (Nat.le_refl _) _).alloc (by simp) _).alloc (by simp; omega) _).trans (hb.mono (by simp; omega)))
    obtain ⟨hc, hf⟩ := bcell hb
    clear hb
    go_wp2_with fail
    refine bodyPost_ret (v := .tuple #[.agg #[.int .i64 0, .int .i64 0], .int .i64 (twoErr a b)]) ?_ rfl ⟨rfl, set_2 (set_2 HB.out)⟩
    simp [results, Try.results11, go_sem, hc]
theorem labMeet (a b : Lab) (w : World) : Calls Try.prog 12 #[.agg #[.int .i64 a.level, .int .i64 a.cats], .agg #[.int .i64 b.level, .int .i64 b.cats]] w fun e w' =>
    e = .returned (.tuple #[.agg #[.int .i64 (meetL a b).level, .int .i64 (meetL a b).cats], .int .i64 (twoErr a b)]) ∧ Below w.heap.size w w' := by
  by_cases h : twoErr a b = 0
  · obtain ⟨ha, hb⟩ := two_ok h
    obtain ⟨_, _, a2, a3⟩ := lab_ok ha
    obtain ⟨_, _, b2, b3⟩ := lab_ok hb
    have hj : meetL a b = ⟨min a.level b.level, _⟩ := if_pos h
    obtain ⟨x, hx⟩ := Int.eq_ofNat_of_zero_le a2
    obtain ⟨y, hy⟩ := Int.eq_ofNat_of_zero_le b2
    have hp := and_s x y 8 (by omega) (by omega) (by omega)
    rw [← hx, ← hy] at hp
    rw [hj, h, ← hp]
    clear hj ha hb hx hy
    go_enter Try.func12, Try.ntmps12
    go_wp2_with fail
    refine (labTwo a b _).mono ?_
    rw [h]
    rintro e w1 ⟨rfl, hb⟩
    have HB := Aside.mk (((((Below.refl w.heap.size w).alloc (Nat.le_refl _) _).alloc (by simp) _).alloc (by simp; omega) _).trans (hb.mono (by simp; omega)))
    obtain ⟨hc, hf⟩ := bcell hb
    clear hb
    go_wp2_with fail
    all_goals
      first
      | have hmx : min a.level b.level = a.level := by omega
        rw [hmx]
        refine bodyPost_ret (v := .tuple #[.agg #[.int .i64 a.level, .int .i64 (sumN 8 (fun i => and (bit a.cats i) (bit b.cats i)))], .int .i64 0]) ?_ rfl ⟨rfl, set_2 (set_2 HB.out)⟩
        simp [results, Try.results12, go_sem, hc]
      | have hmx : min a.level b.level = b.level := by omega
        rw [hmx]
        refine bodyPost_ret (v := .tuple #[.agg #[.int .i64 b.level, .int .i64 (sumN 8 (fun i => and (bit a.cats i) (bit b.cats i)))], .int .i64 0]) ?_ rfl ⟨rfl, set_2 (set_2 HB.out)⟩
        simp [results, Try.results12, go_sem, hc]
  · have hb0 : (twoErr a b != 0) = true := by simp [h]
    have hj : meetL a b = ⟨0, 0⟩ := if_neg h
    rw [hj]
    clear h hj
    go_enter Try.func12, Try.ntmps12
    go_wp2_with fail
    refine (labTwo a b _).mono ?_
    rintro e w1 ⟨rfl, hb⟩
    have HB := Aside.mk (((((Below.refl w.heap.size w).alloc (Nat.le_refl _) _).alloc (by simp) _).alloc (by simp; omega) _).trans (hb.mono (by simp; omega)))
    obtain ⟨hc, hf⟩ := bcell hb
    clear hb
    go_wp2_with fail
    refine bodyPost_ret (v := .tuple #[.agg #[.int .i64 0, .int .i64 0], .int .i64 (twoErr a b)]) ?_ rfl ⟨rfl, set_2 (set_2 HB.out)⟩
    simp [results, Try.results12, go_sem, hc]
theorem pop_le (x : Int) (hx0 : 0 ≤ x) (hx : x ≤ 255) : 0 ≤ pop x ∧ pop x ≤ 8 := by
  have h : ∀ y : Int, 0 ≤ y → y ≤ 255 → (0 ≤ pop y ∧ pop y ≤ 8) := allBytes (by decide +kernel)
  exact h x hx0 hx
def countL (l : Lab) : Int := (l.level + 1) * 2 ^ (pop l.cats).toNat
theorem count_wrap {l : Lab} (a0 : 0 ≤ l.level) (a1 : l.level ≤ 3) (a2 : 0 ≤ l.cats) (a3 : l.cats ≤ 255) : wrap64 ((l.level + 1) * 2 ^ (pop l.cats).toNat) = countL l := by
  have h : ∀ y : Int, 0 ≤ y → y ≤ 255 → (0 ≤ (2 : Int) ^ (pop y).toNat ∧ (2 : Int) ^ (pop y).toNat ≤ 256) := allBytes (by decide +kernel)
  have h1 := h l.cats a2 a3
  unfold countL
  generalize (2 : Int) ^ (pop l.cats).toNat = m at *
  have : (l.level + 1) * m ≤ 4 * m := Int.mul_le_mul_of_nonneg_right (by omega) h1.1
  have : 0 ≤ (l.level + 1) * m := Int.mul_nonneg (by omega) h1.1
  unfold wrap64
  omega
def countV (l : Lab) : Int := if labErr l = 0 then countL l else 0
set_option maxRecDepth 100000 in
theorem labCount (l : Lab) (w : World) : Calls Try.prog 13 #[.agg #[.int .i64 l.level, .int .i64 l.cats]] w fun e w' =>
    e = .returned (.tuple #[.int .i64 (countV l), .int .i64 (labErr l)]) ∧ Below w.heap.size w w' := by
  by_cases h : labErr l = 0
  · obtain ⟨a0, a1, a2, a3⟩ := lab_ok h
    rw [countV, if_pos h, h]
    obtain ⟨p0, p8⟩ := pop_le l.cats a2 a3
    go_enter Try.func13, Try.ntmps13
    go_wp2_with fail
    refine (labCheck l _).mono ?_
    rw [h]
    rintro e w1 ⟨rfl, hb⟩
    have HB := Aside.mk (((Below.refl w.heap.size w).alloc (Nat.le_refl _) _).trans (hb.mono (by simp)))
    obtain ⟨hc, hf⟩ := bcell hb
    clear hb
    go_wp2_with fail
    have e0 : IntKind.u64.wrap l.cats = l.cats := by rw [IntKind.wrap_u64]; omega
    have e1 : IntKind.i64.wrap (l.level + 1) = l.level + 1 := by rw [IntKind.wrap_i64]; omega
    go_quiet ((go_at_call 58; exact Calls.quiet_of_same ((ones l.cats a2 a3 _).mono fun _ _ h => ⟨h.1, h.2.symm⟩)))
    go_wp2
    go_ret2
    exact ⟨by rw [count_wrap a0 a1 a2 a3]; rfl, below_drewN HB.out _⟩
  · have hb0 : (labErr l != 0) = true := by simp [h]
    rw [countV, if_neg h]
    clear h
    go_enter Try.func13, Try.ntmps13
    go_wp2_with fail
    refine (labCheck l _).mono ?_
    rintro e w1 ⟨rfl, hb⟩
    have HB := Aside.mk (((Below.refl w.heap.size w).alloc (Nat.le_refl _) _).trans (hb.mono (by simp)))
    clear hb
    go_wp2_with fail
    go_ret2
    exact ⟨rfl, HB.out⟩
def rankL (l : Lab) : Int := l.level + pop l.cats
def rankV (l : Lab) : Int := if labErr l = 0 then rankL l else 0
set_option maxRecDepth 100000 in
theorem labRank (l : Lab) (w : World) : Calls Try.prog 14 #[.agg #[.int .i64 l.level, .int .i64 l.cats]] w fun e w' =>
    e = .returned (.tuple #[.int .i64 (rankV l), .int .i64 (labErr l)]) ∧ Below w.heap.size w w' := by
  by_cases h : labErr l = 0
  · obtain ⟨a0, a1, a2, a3⟩ := lab_ok h
    rw [rankV, if_pos h, h]
    obtain ⟨p0, p8⟩ := pop_le l.cats a2 a3
    go_enter Try.func14, Try.ntmps14
    go_wp2_with fail
    refine (labCheck l _).mono ?_
    rw [h]
    rintro e w1 ⟨rfl, hb⟩
    have HB := Aside.mk (((Below.refl w.heap.size w).alloc (Nat.le_refl _) _).trans (hb.mono (by simp)))
    obtain ⟨hc, hf⟩ := bcell hb
    clear hb
    go_wp2_with fail
    have e0 : IntKind.u64.wrap l.cats = l.cats := by rw [IntKind.wrap_u64]; omega
    have e1 : IntKind.i64.wrap (l.level + pop l.cats) = l.level + pop l.cats := by rw [IntKind.wrap_i64]; omega
    go_quiet ((go_at_call 58; exact Calls.quiet_of_same ((ones l.cats a2 a3 _).mono fun _ _ h => ⟨h.1, h.2.symm⟩)))
    go_wp2
    go_ret2
    exact ⟨rfl, below_drewN HB.out _⟩
  · have hb0 : (labErr l != 0) = true := by simp [h]
    rw [rankV, if_neg h]
    clear h
    go_enter Try.func14, Try.ntmps14
    go_wp2_with fail
    refine (labCheck l _).mono ?_
    rintro e w1 ⟨rfl, hb⟩
    have HB := Aside.mk (((Below.refl w.heap.size w).alloc (Nat.le_refl _) _).trans (hb.mono (by simp)))
    clear hb
    go_wp2_with fail
    go_ret2
    exact ⟨rfl, HB.out⟩
/-- wyref.Below. -/
theorem refBelow (a b : Lab) (ha : 0 ≤ a.cats) (hb : 0 ≤ b.cats) (w : World) : Calls Try.prog 18 #[.agg #[.int .i64 a.level, .int .i64 a.cats], .agg #[.int .i64 b.level, .int .i64 b.cats]] w fun e w' =>
    e = .returned (.bool (belW a b)) ∧ Below w.heap.size w w' := by
  unfold belW
  cases hl : decide (a.level ≤ b.level)
  · go_enter Try.func18, Try.ntmps18
    go_wp2_with fail
    go_ret
    exact ⟨rfl, ((Below.refl _ _).alloc (Nat.le_refl _) _).alloc (by simp) _⟩
  · go_enter Try.func18, Try.ntmps18
    go_wp2_with fail
    refine (partC a.cats b.cats ha hb _).mono ?_
    rintro e w1 ⟨rfl, hb⟩
    have HB := Aside.mk ((((Below.refl w.heap.size w).alloc (Nat.le_refl _) _).alloc (by simp) _).trans (hb.mono (by simp; omega)))
    clear hb
    go_wp2_with fail
    go_ret
    exact ⟨rfl, HB.out⟩
end Go.Proofs.WK
