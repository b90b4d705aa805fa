/-
  Numbers as bits: what Go's |, & and &^ give, bit by bit. No program.
-/
import Derived.Laws.BitsAllLaws
import Derived.Laws.BitsLemmas
namespace Go.Proofs.WK

/-- The number of which p says the first k bits. -/
def sumN : Nat → (Nat → Bool) → Nat
  | 0, _ => 0
  | k + 1, p => 2 ^ k * (if p k = true then 1 else 0) + sumN k p
theorem sumN_lt : ∀ (k : Nat) (p : Nat → Bool), sumN k p < 2 ^ k
  | 0, _ => by simp [sumN]
  | k + 1, p => by
    have := sumN_lt k p
    simp only [sumN, Nat.pow_succ]
    split <;> omega
theorem testBit_sumN : ∀ (k : Nat) (p : Nat → Bool) (j : Nat), (sumN k p).testBit j = (decide (j < k) && p j)
  | 0, p, j => by simp [sumN]
  | k + 1, p, j => by
    have ih := testBit_sumN k p j
    have hl := sumN_lt k p
    simp only [sumN]
    by_cases hp : p k = true
    · rw [if_pos hp, Nat.mul_one]
      rcases Nat.lt_trichotomy j k with h | h | h
      · rw [Nat.testBit_two_pow_add_gt h, ih]; simp [h]; omega
      · subst h
        rw [Nat.testBit_two_pow_add_eq, ih]; simp [hp]
      · rw [Nat.testBit_lt_two_pow (by
          have : 2 ^ (k + 1) ≤ 2 ^ j := Nat.pow_le_pow_right (by omega) h
          rw [Nat.pow_succ] at this
          omega)]
        simp; omega
    · rw [if_neg hp, Nat.mul_zero, Nat.zero_add, ih]
      by_cases h : j = k
      · subst h; simp [hp]
      · have : decide (j < k) = decide (j < k + 1) := by rw [decide_eq_decide]; omega
        rw [this]
/-- Is kind i in n? -/
def bit (n : Int) (i : Nat) : Bool := n / 2 ^ i % 2 == 1
theorem bit_nat (a i : Nat) : bit (a : Int) i = a.testBit i := by
  unfold bit
  rw [Nat.testBit_eq_decide_div_mod_eq]
  have h : ((a : Int) / 2 ^ i % 2) = ((a / 2 ^ i % 2 : Nat) : Int) := by simp
  rw [h]
  by_cases h1 : a / 2 ^ i % 2 = 1
  · simp [h1]
  · have : ¬ (((a / 2 ^ i % 2 : Nat) : Int) = 1) := by omega
    simp only [h1, decide_false, beq_eq_false_iff_ne]
    exact this
/-- A number below 2^k is the sum of its bits. -/
theorem eq_sumN {a k : Nat} (h : a < 2 ^ k) : a = sumN k (fun i => bit (a : Int) i) := Nat.eq_of_testBit_eq fun j => by
  rw [testBit_sumN, bit_nat]
  by_cases hj : j < k
  · simp [hj]
  · rw [Nat.testBit_lt_two_pow (Nat.lt_of_lt_of_le h (Nat.pow_le_pow_right (by omega) (by omega)))]
    simp [hj]
theorem bit_sumN (k : Nat) (p : Nat → Bool) (j : Nat) : bit (sumN k p : Int) j = (decide (j < k) && p j) := by rw [bit_nat, testBit_sumN]
theorem ofInt_i64 (a : Nat) (ha : a < 9223372036854775808) : (BitVec.ofInt 64 (a : Int)).toNat = a := by
  rw [BitVec.ofInt_natCast, BitVec.toNat_ofNat]; exact Nat.mod_eq_of_lt (by omega)
theorem i64_nat {n : Nat} (h : n < 9223372036854775808) : IntKind.i64.wrap (n : Int) = (n : Int) := by rw [IntKind.wrap_i64]; omega
theorem and_n (a b : Nat) (ha : a < 9223372036854775808) (hb : b < 9223372036854775808) : bits .and .i64 (a : Int) (b : Int) = ((a &&& b : Nat) : Int) := by
  have hx : a &&& b < 2 ^ 63 := Nat.and_lt_two_pow _ (by omega)
  show IntKind.i64.wrap ((BitVec.ofInt 64 (a : Int) &&& BitVec.ofInt 64 (b : Int)).toNat : Int) = _
  rw [BitVec.toNat_and, ofInt_i64 a ha, ofInt_i64 b hb, i64_nat (by omega)]
theorem or_n (a b : Nat) (ha : a < 9223372036854775808) (hb : b < 9223372036854775808) : bits .or .i64 (a : Int) (b : Int) = ((a ||| b : Nat) : Int) := by
  have hx : a ||| b < 2 ^ 63 := Nat.or_lt_two_pow (by omega) (by omega)
  show IntKind.i64.wrap ((BitVec.ofInt 64 (a : Int) ||| BitVec.ofInt 64 (b : Int)).toNat : Int) = _
  rw [BitVec.toNat_or, ofInt_i64 a ha, ofInt_i64 b hb, i64_nat (by omega)]
theorem andNot_n (a b k : Nat) (hk : k ≤ 63) (ha : a < 2 ^ k) (hb : b < 9223372036854775808) : bits .andNot .i64 (a : Int) (b : Int) = (sumN k (fun i => bit (a : Int) i && !bit (b : Int) i) : Int) := by
  have ha' : a < 9223372036854775808 := Nat.lt_of_lt_of_le ha (Nat.pow_le_pow_right (n := 2) (by omega) hk)
  have e : (BitVec.ofInt 64 (a : Int) &&& ~~~ BitVec.ofInt 64 (b : Int)).toNat = sumN k (fun i => bit (a : Int) i && !bit (b : Int) i) := Nat.eq_of_testBit_eq fun j => by
    rw [BitVec.testBit_toNat, BitVec.getLsbD_and, BitVec.getLsbD_not, testBit_sumN, bit_nat, bit_nat, ← BitVec.testBit_toNat, ← BitVec.testBit_toNat, ofInt_i64 a ha', ofInt_i64 b hb]
    by_cases hj : j < k
    · have h64 : decide (j < 64) = true := by simp; omega
      simp [hj, h64]
    · rw [Nat.testBit_lt_two_pow (Nat.lt_of_lt_of_le ha (Nat.pow_le_pow_right (by omega) (by omega)))]
      simp [hj]
  show IntKind.i64.wrap ((BitVec.ofInt 64 (a : Int) &&& ~~~ BitVec.ofInt 64 (b : Int)).toNat : Int) = _
  rw [e, i64_nat]
  exact Nat.lt_of_lt_of_le (sumN_lt _ _) (Nat.pow_le_pow_right (n := 2) (by omega) hk)
theorem or_s (a b k : Nat) (hk : k ≤ 63) (ha : a < 2 ^ k) (hb : b < 2 ^ k) : bits .or .i64 (a : Int) (b : Int) = (sumN k (fun i => bit (a : Int) i || bit (b : Int) i) : Int) := by
  have h : 2 ^ k ≤ 9223372036854775808 := Nat.pow_le_pow_right (n := 2) (by omega) hk
  rw [or_n a b (by omega) (by omega)]
  congr 1
  refine Nat.eq_of_testBit_eq fun j => ?_
  rw [testBit_sumN, Nat.testBit_or, bit_nat, bit_nat]
  by_cases hj : j < k
  · simp [hj]
  · have h2 : 2 ^ k ≤ 2 ^ j := Nat.pow_le_pow_right (by omega) (by omega)
    rw [Nat.testBit_lt_two_pow (x := a) (by omega), Nat.testBit_lt_two_pow (x := b) (by omega)]
    simp [hj]
theorem and_s (a b k : Nat) (hk : k ≤ 63) (ha : a < 2 ^ k) (hb : b < 2 ^ k) : bits .and .i64 (a : Int) (b : Int) = (sumN k (fun i => bit (a : Int) i && bit (b : Int) i) : Int) := by
  have h : 2 ^ k ≤ 9223372036854775808 := Nat.pow_le_pow_right (n := 2) (by omega) hk
  rw [and_n a b (by omega) (by omega)]
  congr 1
  refine Nat.eq_of_testBit_eq fun j => ?_
  rw [testBit_sumN, Nat.testBit_and, bit_nat, bit_nat]
  by_cases hj : j < k
  · simp [hj]
  · have h2 : 2 ^ k ≤ 2 ^ j := Nat.pow_le_pow_right (by omega) (by omega)
    rw [Nat.testBit_lt_two_pow (x := a) (by omega)]
    simp [hj]
theorem sumN_zero {k : Nat} {p : Nat → Bool} : sumN k p = 0 ↔ ∀ i, i < k → p i = false := by
  constructor
  · intro h i hi
    have := testBit_sumN k p i
    rw [h] at this
    simpa [hi] using this.symm
  · intro h
    refine Nat.eq_of_testBit_eq fun j => ?_
    rw [testBit_sumN]
    by_cases hj : j < k
    · simp [h j hj]
    · simp [hj]
/-- Are all kinds of a kinds of b? -/
def part (a b : Int) : Bool := (List.range 8).all fun i => !bit a i || bit b i
theorem part_iff {a b : Int} : part a b = true ↔ ∀ i, i < 8 → bit a i = true → bit b i = true := by
  unfold part
  rw [List.all_eq_true]
  constructor
  · intro h i hi ha
    have := h i (by simpa using hi)
    simpa [ha] using this
  · intro h i hi
    have hi8 : i < 8 := by simpa using hi
    cases ha : bit a i with
    | false => rfl
    | true => simp [h i hi8 ha]
theorem part_andNot {a b : Int} (h0 : 0 ≤ a) (h1 : a ≤ 255) (h2 : 0 ≤ b) (h3 : b ≤ 255) : (bits .andNot .i64 a b == 0) = part a b := by
  obtain ⟨x, rfl⟩ := Int.eq_ofNat_of_zero_le h0
  obtain ⟨y, rfl⟩ := Int.eq_ofNat_of_zero_le h2
  rw [andNot_n x y 8 (by omega) (by omega) (by omega), Bool.eq_iff_iff, part_iff, beq_iff_eq]
  rw [show ((sumN 8 (fun i => bit (x : Int) i && !bit (y : Int) i) : Nat) : Int) = 0 ↔ sumN 8 (fun i => bit (x : Int) i && !bit (y : Int) i) = 0 from by omega, sumN_zero]
  constructor
  · intro h i hi ha
    have := h i hi
    simpa [ha] using this
  · intro h i hi
    cases ha : bit (x : Int) i with
    | false => rfl
    | true => simp [h i hi ha]
end Go.Proofs.WK
