/-
  Roles that come with roles: the plain laws. No program.
-/
import Derived.Test.YtljjiicjnoljbaaDoorNum
namespace Go.Proofs.WK

def upAt (up : List Int) (i : Nat) : Int := up[i]?.getD 0
theorem upAt_get {up : List Int} {i : Nat} (h : i < up.length) : upAt up i = up[i] := by simp [upAt, h]
def upOne (up : List Int) (i : Nat) : Bool := decide (0 ≤ upAt up i) && decide (upAt up i < 2 ^ i)
def upOkK (up : List Int) (k : Nat) : Bool := (List.range k).all (upOne up)
def roleErr (up : List Int) : Int := if 8 < up.length then 2 else if upOkK up up.length = true then 0 else 1
theorem upOkK_step (up : List Int) (k : Nat) : upOkK up (k + 1) = (upOkK up k && upOne up k) := by simp [upOkK, List.range_succ]
theorem upOkK_le {up : List Int} {k n : Nat} (h : upOkK up n = true) (hk : k < n) : upOne up k = true := by
  unfold upOkK at h
  rw [List.all_eq_true] at h
  exact h k (by simpa using hk)
theorem roleErr_ok {up : List Int} (h : roleErr up = 0) : up.length ≤ 8 ∧ ∀ k, k < up.length → 0 ≤ upAt up k ∧ upAt up k < 2 ^ k := by
  unfold roleErr at h
  split at h
  · cases h
  · split at h
    · refine ⟨by omega, fun k hk => ?_⟩
      have := upOkK_le ‹_› hk
      simpa [upOne] using this
    · cases h
/-- Role k comes with role i, by a chain. -/
inductive Reach (up : List Int) : Nat → Nat → Prop
  | refl (i : Nat) : Reach up i i
  | step {i j k : Nat} (h : bit (upAt up i) j = true) (hr : Reach up j k) : Reach up i k
theorem Reach.snoc {up : List Int} {i k j : Nat} (h : Reach up i k) (hb : bit (upAt up k) j = true) : Reach up i j := by
  induction h with
  | refl i => exact .step hb (.refl j)
  | step h _ ih => exact .step h (ih hb)
/-- wyref.Comes, with fuel. -/
def comesN (up : List Int) (k : Int) : Nat → Nat → Bool
  | 0, _ => false
  | f + 1, i => decide ((i : Int) = k) || (List.range i).any fun j => bit (upAt up i) j && comesN up k f j
def comesK (up : List Int) (k : Int) (f i n : Nat) : Bool := (List.range n).any fun j => bit (upAt up i) j && comesN up k f j
theorem comesK_step (up : List Int) (k : Int) (f i n : Nat) : comesK up k f i (n + 1) = (comesK up k f i n || (bit (upAt up i) n && comesN up k f n)) := by simp [comesK, List.range_succ]
theorem comesK_hit {up : List Int} {k : Int} {f i n m : Nat} (hn : n < m) (h1 : bit (upAt up i) n = true) (h2 : comesN up k f n = true) : comesK up k f i m = true := by
  unfold comesK
  rw [List.any_eq_true]
  exact ⟨n, by simpa using hn, by rw [h1, h2]; rfl⟩
theorem bit_lt {n : Int} {k j : Nat} (h0 : 0 ≤ n) (h : n < 2 ^ k) (hb : bit n j = true) : j < k := by
  refine Nat.lt_of_not_le fun hk => ?_
  obtain ⟨x, rfl⟩ := Int.eq_ofNat_of_zero_le h0
  rw [bit_nat] at hb
  have h1 : 2 ^ k ≤ 2 ^ j := Nat.pow_le_pow_right (by omega) hk
  have h2 : ((2 ^ k : Nat) : Int) = 2 ^ k := by simp
  rw [Nat.testBit_lt_two_pow (by omega)] at hb
  cases hb
def UpOk (up : List Int) : Prop := ∀ k, k < up.length → 0 ≤ upAt up k ∧ upAt up k < 2 ^ k
theorem bit_zero (j : Nat) : bit 0 j = false := by simp [bit]
theorem UpOk.edge {up : List Int} (h : UpOk up) {i j : Nat} (hb : bit (upAt up i) j = true) : j < i := by
  by_cases hi : i < up.length
  · exact bit_lt (h i hi).1 (h i hi).2 hb
  · rw [show upAt up i = 0 from by simp [upAt, Nat.le_of_not_lt hi], bit_zero] at hb
    cases hb
theorem Reach.le {up : List Int} (h : UpOk up) {i k : Nat} (hr : Reach up i k) : k ≤ i := by
  induction hr with
  | refl => exact Nat.le_refl _
  | step hb _ ih => exact Nat.le_trans ih (Nat.le_of_lt (h.edge hb))
theorem comesN_iff {up : List Int} (h : UpOk up) : ∀ (f i k : Nat), i < f → (comesN up (k : Int) f i = true ↔ Reach up i k)
  | 0, _, _, hf => by omega
  | f + 1, i, k, hf => by
    unfold comesN
    rw [Bool.or_eq_true, decide_eq_true_eq, List.any_eq_true]
    constructor
    · rintro (e | ⟨j, hj, hb⟩)
      · obtain rfl : i = k := by omega
        exact .refl i
      · rw [Bool.and_eq_true] at hb
        have hji : j < i := by simpa using hj
        exact .step hb.1 ((comesN_iff h f j k (by omega)).1 hb.2)
    · intro hr
      cases hr with
      | refl => exact .inl rfl
      | step hb hr =>
        have hji := h.edge hb
        exact .inr ⟨_, by simpa using hji, by rw [Bool.and_eq_true]; exact ⟨hb, (comesN_iff h f _ k (by omega)).2 hr⟩⟩
theorem comesN_neg (up : List Int) {k : Int} (hk : k < 0) : ∀ (f i : Nat), comesN up k f i = false
  | 0, _ => rfl
  | f + 1, i => by
    unfold comesN
    rw [decide_eq_false (by omega), Bool.false_or, List.any_eq_false]
    intro j _
    simp [comesN_neg up hk f j]
/-- Does role k come with role i? -/
def comes (up : List Int) (i : Nat) (k : Int) : Bool := comesN up k 9 i
theorem comes_iff {up : List Int} (h : UpOk up) {i k : Nat} (hi : i < 9) : comes up i k = true ↔ Reach up i k := comesN_iff h 9 i k hi

/-! ### role.All: from role i downwards -/
/-- What out holds ahead of the round of role k (the roles from k on have been looked at). -/
structure AllAt (up : List Int) (i : Nat) (k : Nat) (out : Nat) : Prop where
  self : out.testBit i = true
  sound : ∀ j, out.testBit j = true → Reach up i j
  closed : ∀ m, k ≤ m → out.testBit m = true → ∀ j, bit (upAt up m) j = true → out.testBit j = true
theorem AllAt.start (up : List Int) (i : Nat) : AllAt up i (i + 1) (2 ^ i) where
  self := Nat.testBit_two_pow_self ..
  sound j hj := by
    rw [Nat.testBit_two_pow] at hj
    obtain rfl : i = j := by simpa using hj
    exact .refl _
  closed m hm hb := by
    rw [Nat.testBit_two_pow] at hb
    have : i = m := by simpa using hb
    omega
theorem AllAt.no {up : List Int} {i k out : Nat} (h : AllAt up i (k + 1) out) (hb : out.testBit k = false) : AllAt up i k out :=
  ⟨h.self, h.sound, fun m hm hbm j hj => by
    rcases Nat.lt_or_ge k m with h1 | h1
    · exact h.closed m h1 hbm j hj
    · obtain rfl : m = k := by omega
      rw [hb] at hbm
      cases hbm⟩
theorem AllAt.yes {up : List Int} {i k out u : Nat} (ho : UpOk up) (h : AllAt up i (k + 1) out) (hb : out.testBit k = true) (hu : upAt up k = (u : Int)) : AllAt up i k (out ||| u) where
  self := by rw [Nat.testBit_or, h.self]; rfl
  sound j hj := by
    rw [Nat.testBit_or, Bool.or_eq_true] at hj
    rcases hj with hj | hj
    · exact h.sound j hj
    · exact (h.sound k hb).snoc (by rw [hu, bit_nat]; exact hj)
  closed m hm hbm j hj := by
    rw [Nat.testBit_or, Bool.or_eq_true] at hbm ⊢
    rcases Nat.lt_or_ge k m with h1 | h1
    · rcases hbm with hbm | hbm
      · exact .inl (h.closed m h1 hbm j hj)
      · have := ho.edge (i := k) (j := m) (by rw [hu, bit_nat]; exact hbm)
        omega
    · obtain rfl : m = k := by omega
      rw [hu, bit_nat] at hj
      exact .inr hj
theorem AllAt.end_ {up : List Int} {i out : Nat} (h : AllAt up i 0 out) (j : Nat) : out.testBit j = true ↔ Reach up i j := by
  refine ⟨h.sound j, fun hr => ?_⟩
  have key : ∀ a b, Reach up a b → out.testBit a = true → out.testBit b = true := by
    intro a b hr
    induction hr with
    | refl => exact id
    | step hb _ ih => exact fun ha => ih (h.closed _ (Nat.zero_le _) ha _ hb)
  exact key i j hr h.self
theorem AllAt.lt {up : List Int} {i k out : Nat} (ho : UpOk up) (hi : i < 8) (h : AllAt up i k out) : out < 256 :=
  Nat.lt_pow_two_of_testBit (n := 8) _ fun j hj => Bool.eq_false_iff.2 fun hb => by
    have := (h.sound j hb).le ho
    omega
def allR (up : List Int) (i : Nat) : Nat := sumN 8 fun k => comes up i k
theorem AllAt.eq {up : List Int} {i out : Nat} (ho : UpOk up) (hi : i < 8) (h : AllAt up i 0 out) : out = allR up i := Nat.eq_of_testBit_eq fun j => by
  rw [allR, testBit_sumN, Bool.eq_iff_iff, h.end_ j, Bool.and_eq_true, decide_eq_true_eq, comes_iff ho (by omega)]
  exact ⟨fun hr => ⟨by have := hr.le ho; omega, hr⟩, fun hr => hr.2⟩
def allErr (up : List Int) (i : Int) : Int := if roleErr up = 0 then (if i < 0 ∨ up.length ≤ i then 4 else 0) else roleErr up
def allV (up : List Int) (i : Int) : Int := if allErr up i = 0 then allR up i.toNat else 0
theorem and_one {o k : Nat} (ho : o < 256) : bits .and .i64 ((o : Int) / 2 ^ k) 1 = if o.testBit k = true then 1 else 0 := by
  have h : ((o : Int) / 2 ^ k) = ((o / 2 ^ k : Nat) : Int) := by simp
  have h1 : o / 2 ^ k ≤ o := Nat.div_le_self _ _
  rw [h, show (1 : Int) = ((1 : Nat) : Int) from rfl, and_n _ _ (by omega) (by omega), Nat.and_one_is_mod, Nat.testBit_eq_decide_div_mod_eq]
  by_cases h2 : o / 2 ^ k % 2 = 1
  · simp [h2]
  · have : o / 2 ^ k % 2 = 0 := by omega
    simp [this]
theorem bit_allR (up : List Int) (i k : Nat) : bit (allR up i : Int) k = (decide (k < 8) && comes up i k) := by rw [allR, bit_sumN]
theorem comes_far {up : List Int} (ho : UpOk up) {i k : Nat} (hi : i < 9) (hk : i < k) : comes up i k = false := Bool.eq_false_iff.2 fun h => by
  have := ((comes_iff ho hi).1 h).le ho
  omega
end Go.Proofs.WK
