/-
  The first error of a list. No program.
  The order of texts (bytes, as Go compares strings), sorted lists of them. No program.
  Numbers as bits: what Go's |, & and &^ give, bit by bit. No program.
  Sorted lists of texts: one list for one set. No program.
  Whether a text is in a list. No program.
  Roles that come with roles: the plain laws. No program.
-/
import Derived.Laws.Strings
import GoSem.Op.String
import Derived.Laws.BitsAllLaws
import Derived.Laws.BitsLemmas
namespace Go.Proofs.WK
def firstErr {α : Type} (f : α → Int) : List α → Int
  | [] => 0
  | a :: l => if f a = 0 then firstErr f l else f a
variable {α : Type} {f : α → Int}
theorem firstErr_app (l₁ l₂ : List α) : firstErr f (l₁ ++ l₂) = if firstErr f l₁ = 0 then firstErr f l₂ else firstErr f l₁ := by
  induction l₁ with
  | nil => simp [firstErr]
  | cons a l ih =>
    simp only [List.cons_append, firstErr]
    by_cases h : f a = 0
    · simp only [if_pos h]; exact ih
    · simp only [if_neg h]
theorem firstErr_step {l : List α} {k : Nat} (hk : k < l.length) (h : firstErr f (l.take k) = 0) : firstErr f (l.take (k + 1)) = f l[k] := by
  rw [List.take_succ_eq_append_getElem hk, firstErr_app, if_pos h]
  by_cases h0 : f l[k] = 0
  · simp [firstErr, h0]
  · simp [firstErr, h0]
theorem firstErr_hit {l : List α} {k : Nat} (hk : k < l.length) (h : firstErr f (l.take k) = 0) (h0 : f l[k] ≠ 0) : firstErr f l = f l[k] := by
  have e := firstErr_step hk h
  have e3 := firstErr_app (f := f) (l.take (k + 1)) (l.drop (k + 1))
  rw [List.take_append_drop, e, if_neg h0] at e3
  exact e3
theorem firstErr_none {l : List α} (h : firstErr f l = 0) : ∀ a ∈ l, f a = 0 := by
  induction l with
  | nil => intro a ha; cases ha
  | cons b l ih =>
    simp only [firstErr] at h
    by_cases hb : f b = 0
    · rw [if_pos hb] at h
      intro a ha
      rcases List.mem_cons.1 ha with rfl | ha
      · exact hb
      · exact ih h a ha
    · rw [if_neg hb] at h
      exact absurd h hb
end Go.Proofs.WK
namespace Go.Proofs.WK

theorem toList_data (s : ByteArray) : s.toList = s.data.toList := by
  show ByteArray.toList.loop s 0 [] = _
  rw [ByteArray.toList_loop_eq s s.size 0 [] (by omega) (by omega)]
  simp
theorem str_ext {a b : ByteArray} (h : a.toList = b.toList) : a = b := by
  rw [toList_data, toList_data] at h
  cases a; cases b
  simp at h
  subst h
  rfl
theorem toList_eq_iff {a b : ByteArray} : a.toList = b.toList ↔ a = b := ⟨str_ext, fun h => h ▸ rfl⟩
theorem toList_beq (a b : ByteArray) : (a.toList == b.toList) = decide (a = b) := by
  by_cases h : a = b
  · simp [h]
  · have : ¬ a.toList = b.toList := fun e => h (str_ext e)
    simp [h, this]

theorem bl_eq : ∀ (x y : List UInt8), Op.bytesLess x y = decide (x < y)
  | [], [] => by simp [Op.bytesLess]
  | _ :: _, [] => by simp [Op.bytesLess]
  | [], _ :: _ => by simp [Op.bytesLess]
  | a :: x, b :: y => by
    rw [Op.bytesLess, bl_eq x y]
    simp only [List.cons_lt_cons_iff]
    by_cases h1 : a < b <;> by_cases h2 : a = b <;> by_cases h3 : x < y <;> simp [h1, h2, h3]
theorem bl_irrefl (x : List UInt8) : Op.bytesLess x x = false := by
  induction x with
  | nil => rfl
  | cons a x ih => simp [Op.bytesLess, ih, UInt8.lt_irrefl]
theorem bl_trans : ∀ {x y z : List UInt8}, Op.bytesLess x y = true → Op.bytesLess y z = true → Op.bytesLess x z = true
  | [], [], _, h, _ => by simp [Op.bytesLess] at h
  | [], _ :: _, [], _, h => by simp [Op.bytesLess] at h
  | [], _ :: _, _ :: _, _, _ => by simp [Op.bytesLess]
  | _ :: _, [], _, h, _ => by simp [Op.bytesLess] at h
  | _ :: _, _ :: _, [], _, h => by simp [Op.bytesLess] at h
  | a :: x, b :: y, c :: z, h, k => by
    simp only [Op.bytesLess, Bool.or_eq_true, Bool.and_eq_true, decide_eq_true_eq, beq_iff_eq] at h k ⊢
    rcases h with h | ⟨rfl, h⟩
    · rcases k with k | ⟨rfl, k⟩
      · exact .inl (UInt8.lt_trans h k)
      · exact .inl h
    · rcases k with k | ⟨rfl, k⟩
      · exact .inl k
      · exact .inr ⟨rfl, bl_trans h k⟩
theorem bl_tri : ∀ (x y : List UInt8), Op.bytesLess x y = true ∨ x = y ∨ Op.bytesLess y x = true
  | [], [] => .inr (.inl rfl)
  | [], _ :: _ => .inl (by simp [Op.bytesLess])
  | _ :: _, [] => .inr (.inr (by simp [Op.bytesLess]))
  | a :: x, b :: y => by
    simp only [Op.bytesLess, Bool.or_eq_true, Bool.and_eq_true, decide_eq_true_eq, beq_iff_eq]
    rcases Nat.lt_trichotomy a.toNat b.toNat with h | h | h
    · exact .inl (.inl h)
    · have : a = b := UInt8.toNat_inj.1 h
      subst this
      rcases bl_tri x y with k | rfl | k
      · exact .inl (.inr ⟨rfl, k⟩)
      · exact .inr (.inl rfl)
      · exact .inr (.inr (.inr ⟨rfl, k⟩))
    · exact .inr (.inr (.inl h))

/-- Go's '<' on texts. -/
def slt (a b : ByteArray) : Bool := Op.bytesLess a.toList b.toList
theorem slt_irrefl (a : ByteArray) : slt a a = false := bl_irrefl _
theorem slt_trans {a b c : ByteArray} (h : slt a b = true) (k : slt b c = true) : slt a c = true := bl_trans h k
theorem slt_tri (a b : ByteArray) : slt a b = true ∨ a = b ∨ slt b a = true := by
  rcases bl_tri a.toList b.toList with h | h | h
  · exact .inl h
  · exact .inr (.inl (str_ext h))
  · exact .inr (.inr h)
theorem slt_asymm {a b : ByteArray} (h : slt a b = true) : slt b a = false := by
  cases k : slt b a with
  | false => rfl
  | true => have := slt_trans h k; rw [slt_irrefl] at this; cases this
theorem slt_ne {a b : ByteArray} (h : slt a b = true) : a ≠ b := by
  rintro rfl
  rw [slt_irrefl] at h
  cases h
/-- Not below: equal or above. -/
theorem slt_false {a b : ByteArray} (h : slt a b = false) : a = b ∨ slt b a = true := by
  rcases slt_tri a b with k | k | k
  · rw [h] at k; cases k
  · exact .inl k
  · exact .inr k

/-- In order, none twice. -/
def Srt (l : List ByteArray) : Prop := l.Pairwise (fun a b => slt a b = true)
/-- The same, neighbour by neighbour, as the code asks. -/
def srtB : List ByteArray → Bool
  | [] => true
  | [_] => true
  | a :: b :: l => slt a b && srtB (b :: l)
theorem srtB_iff : ∀ l : List ByteArray, srtB l = true ↔ Srt l
  | [] => by simp [srtB, Srt]
  | [_] => by simp [srtB, Srt]
  | a :: b :: l => by
    have ih := srtB_iff (b :: l)
    simp only [srtB, Bool.and_eq_true, ih, Srt, List.pairwise_cons]
    constructor
    · rintro ⟨h, h1, h2⟩
      refine ⟨fun x hx => ?_, h1, h2⟩
      rcases List.mem_cons.1 hx with rfl | hx
      · exact h
      · exact slt_trans h (h1 x hx)
    · rintro ⟨h, h1, h2⟩
      exact ⟨h b (List.mem_cons_self ..), h1, h2⟩
/-- One more. -/
theorem srtB_snoc (l : List ByteArray) (k : Nat) (h : k + 1 < l.length) : srtB (l.take (k + 2)) = (srtB (l.take (k + 1)) && slt l[k] l[k + 1]) := by
  induction l generalizing k with
  | nil => simp at h
  | cons a l ih =>
    cases k with
    | zero =>
      match l, h with
      | b :: l, _ => simp [srtB]
    | succ k =>
      have h1 : k + 1 < l.length := by simpa using h
      have ih1 := ih k h1
      match l, h1, ih1 with
      | b :: l, h1, ih1 =>
        simp only [List.take_succ_cons, srtB, List.getElem_cons_succ] at ih1 ⊢
        rw [ih1, Bool.and_assoc]
theorem srtB_at (l : List ByteArray) (k : Nat) (h0 : 0 < k) (h : k < l.length) : srtB (l.take (k + 1)) = (srtB (l.take k) && slt (l[k - 1]'(by omega)) l[k]) := by
  obtain ⟨j, rfl⟩ : ∃ j, k = j + 1 := ⟨k - 1, by omega⟩
  exact srtB_snoc l j h
theorem srt_take {l : List ByteArray} (h : srtB l = true) (k : Nat) : srtB (l.take k) = true := (srtB_iff _).2 (List.Pairwise.sublist (List.take_sublist k l) ((srtB_iff _).1 h))
end Go.Proofs.WK
namespace Go.Proofs.WK

/-- The number of which p says the first k bits. -/
def sumN : Nat → (Nat → Bool) → Nat
  | 0, _ => 0
  | k + 1, p => 2 ^ k * (if p k = true then 1 else 0) + sumN k p
theorem sumN_lt : ∀ (k : Nat) (p : Nat → Bool), sumN k p < 2 ^ k
  | 0, _ => by simp [sumN]
  | k + 1, p => by
    have := sumN_lt k p
    simp only [sumN, Nat.pow_succ]
    split <;> omega
theorem testBit_sumN : ∀ (k : Nat) (p : Nat → Bool) (j : Nat), (sumN k p).testBit j = (decide (j < k) && p j)
  | 0, p, j => by simp [sumN]
  | k + 1, p, j => by
    have ih := testBit_sumN k p j
    have hl := sumN_lt k p
    simp only [sumN]
    by_cases hp : p k = true
    · rw [if_pos hp, Nat.mul_one]
      rcases Nat.lt_trichotomy j k with h | h | h
      · rw [Nat.testBit_two_pow_add_gt h, ih]; simp [h]; omega
      · subst h
        rw [Nat.testBit_two_pow_add_eq, ih]; simp [hp]
      · rw [Nat.testBit_lt_two_pow (by
          have : 2 ^ (k + 1) ≤ 2 ^ j := Nat.pow_le_pow_right (by omega) h
          rw [Nat.pow_succ] at this
          omega)]
        simp; omega
    · rw [if_neg hp, Nat.mul_zero, Nat.zero_add, ih]
      by_cases h : j = k
      · subst h; simp [hp]
      · have : decide (j < k) = decide (j < k + 1) := by rw [decide_eq_decide]; omega
        rw [this]
/-- Is kind i in n? -/
def bit (n : Int) (i : Nat) : Bool := n / 2 ^ i % 2 == 1
theorem bit_nat (a i : Nat) : bit (a : Int) i = a.testBit i := by
  unfold bit
  rw [Nat.testBit_eq_decide_div_mod_eq]
  have h : ((a : Int) / 2 ^ i % 2) = ((a / 2 ^ i % 2 : Nat) : Int) := by simp
  rw [h]
  by_cases h1 : a / 2 ^ i % 2 = 1
  · simp [h1]
  · have : ¬ (((a / 2 ^ i % 2 : Nat) : Int) = 1) := by omega
    simp only [h1, decide_false, beq_eq_false_iff_ne]
    exact this
/-- A number below 2^k is the sum of its bits. -/
theorem eq_sumN {a k : Nat} (h : a < 2 ^ k) : a = sumN k (fun i => bit (a : Int) i) := Nat.eq_of_testBit_eq fun j => by
  rw [testBit_sumN, bit_nat]
  by_cases hj : j < k
  · simp [hj]
  · rw [Nat.testBit_lt_two_pow (Nat.lt_of_lt_of_le h (Nat.pow_le_pow_right (by omega) (by omega)))]
    simp [hj]
theorem bit_sumN (k : Nat) (p : Nat → Bool) (j : Nat) : bit (sumN k p : Int) j = (decide (j < k) && p j) := by rw [bit_nat, testBit_sumN]
theorem ofInt_i64 (a : Nat) (ha : a < 9223372036854775808) : (BitVec.ofInt 64 (a : Int)).toNat = a := by
  rw [BitVec.ofInt_natCast, BitVec.toNat_ofNat]; exact Nat.mod_eq_of_lt (by omega)
theorem i64_nat {n : Nat} (h : n < 9223372036854775808) : IntKind.i64.wrap (n : Int) = (n : Int) := by rw [IntKind.wrap_i64]; omega
theorem and_n (a b : Nat) (ha : a < 9223372036854775808) (hb : b < 9223372036854775808) : bits .and .i64 (a : Int) (b : Int) = ((a &&& b : Nat) : Int) := by
  have hx : a &&& b < 2 ^ 63 := Nat.and_lt_two_pow _ (by omega)
  show IntKind.i64.wrap ((BitVec.ofInt 64 (a : Int) &&& BitVec.ofInt 64 (b : Int)).toNat : Int) = _
  rw [BitVec.toNat_and, ofInt_i64 a ha, ofInt_i64 b hb, i64_nat (by omega)]
theorem or_n (a b : Nat) (ha : a < 9223372036854775808) (hb : b < 9223372036854775808) : bits .or .i64 (a : Int) (b : Int) = ((a ||| b : Nat) : Int) := by
  have hx : a ||| b < 2 ^ 63 := Nat.or_lt_two_pow (by omega) (by omega)
  show IntKind.i64.wrap ((BitVec.ofInt 64 (a : Int) ||| BitVec.ofInt 64 (b : Int)).toNat : Int) = _
  rw [BitVec.toNat_or, ofInt_i64 a ha, ofInt_i64 b hb, i64_nat (by omega)]
theorem andNot_n (a b k : Nat) (hk : k ≤ 63) (ha : a < 2 ^ k) (hb : b < 9223372036854775808) : bits .andNot .i64 (a : Int) (b : Int) = (sumN k (fun i => bit (a : Int) i && !bit (b : Int) i) : Int) := by
  have ha' : a < 9223372036854775808 := Nat.lt_of_lt_of_le ha (Nat.pow_le_pow_right (n := 2) (by omega) hk)
  have e : (BitVec.ofInt 64 (a : Int) &&& ~~~ BitVec.ofInt 64 (b : Int)).toNat = sumN k (fun i => bit (a : Int) i && !bit (b : Int) i) := Nat.eq_of_testBit_eq fun j => by
    rw [BitVec.testBit_toNat, BitVec.getLsbD_and, BitVec.getLsbD_not, testBit_sumN, bit_nat, bit_nat, ← BitVec.testBit_toNat, ← BitVec.testBit_toNat, ofInt_i64 a ha', ofInt_i64 b hb]
    by_cases hj : j < k
    · have h64 : decide (j < 64) = true := by simp; omega
      simp [hj, h64]
    · rw [Nat.testBit_lt_two_pow (Nat.lt_of_lt_of_le ha (Nat.pow_le_pow_right (by omega) (by omega)))]
      simp [hj]
  show IntKind.i64.wrap ((BitVec.ofInt 64 (a : Int) &&& ~~~ BitVec.ofInt 64 (b : Int)).toNat : Int) = _
  rw [e, i64_nat]
  exact Nat.lt_of_lt_of_le (sumN_lt _ _) (Nat.pow_le_pow_right (n := 2) (by omega) hk)
theorem or_s (a b k : Nat) (hk : k ≤ 63) (ha : a < 2 ^ k) (hb : b < 2 ^ k) : bits .or .i64 (a : Int) (b : Int) = (sumN k (fun i => bit (a : Int) i || bit (b : Int) i) : Int) := by
  have h : 2 ^ k ≤ 9223372036854775808 := Nat.pow_le_pow_right (n := 2) (by omega) hk
  rw [or_n a b (by omega) (by omega)]
  congr 1
  refine Nat.eq_of_testBit_eq fun j => ?_
  rw [testBit_sumN, Nat.testBit_or, bit_nat, bit_nat]
  by_cases hj : j < k
  · simp [hj]
  · have h2 : 2 ^ k ≤ 2 ^ j := Nat.pow_le_pow_right (by omega) (by omega)
    rw [Nat.testBit_lt_two_pow (x := a) (by omega), Nat.testBit_lt_two_pow (x := b) (by omega)]
    simp [hj]
theorem and_s (a b k : Nat) (hk : k ≤ 63) (ha : a < 2 ^ k) (hb : b < 2 ^ k) : bits .and .i64 (a : Int) (b : Int) = (sumN k (fun i => bit (a : Int) i && bit (b : Int) i) : Int) := by
  have h : 2 ^ k ≤ 9223372036854775808 := Nat.pow_le_pow_right (n := 2) (by omega) hk
  rw [and_n a b (by omega) (by omega)]
  congr 1
  refine Nat.eq_of_testBit_eq fun j => ?_
  rw [testBit_sumN, Nat.testBit_and, bit_nat, bit_nat]
  by_cases hj : j < k
  · simp [hj]
  · have h2 : 2 ^ k ≤ 2 ^ j := Nat.pow_le_pow_right (by omega) (by omega)
    rw [Nat.testBit_lt_two_pow (x := a) (by omega)]
    simp [hj]
theorem sumN_zero {k : Nat} {p : Nat → Bool} : sumN k p = 0 ↔ ∀ i, i < k → p i = false := by
  constructor
  · intro h i hi
    have := testBit_sumN k p i
    rw [h] at this
    simpa [hi] using this.symm
  · intro h
    refine Nat.eq_of_testBit_eq fun j => ?_
    rw [testBit_sumN]
    by_cases hj : j < k
    · simp [h j hj]
    · simp [hj]
/-- Are all kinds of a kinds of b? -/
def part (a b : Int) : Bool := (List.range 8).all fun i => !bit a i || bit b i
theorem part_iff {a b : Int} : part a b = true ↔ ∀ i, i < 8 → bit a i = true → bit b i = true := by
  unfold part
  rw [List.all_eq_true]
  constructor
  · intro h i hi ha
    have := h i (by simpa using hi)
    simpa [ha] using this
  · intro h i hi
    have hi8 : i < 8 := by simpa using hi
    cases ha : bit a i with
    | false => rfl
    | true => simp [h i hi8 ha]
theorem part_andNot {a b : Int} (h0 : 0 ≤ a) (h1 : a ≤ 255) (h2 : 0 ≤ b) (h3 : b ≤ 255) : (bits .andNot .i64 a b == 0) = part a b := by
  obtain ⟨x, rfl⟩ := Int.eq_ofNat_of_zero_le h0
  obtain ⟨y, rfl⟩ := Int.eq_ofNat_of_zero_le h2
  rw [andNot_n x y 8 (by omega) (by omega) (by omega), Bool.eq_iff_iff, part_iff, beq_iff_eq]
  rw [show ((sumN 8 (fun i => bit (x : Int) i && !bit (y : Int) i) : Nat) : Int) = 0 ↔ sumN 8 (fun i => bit (x : Int) i && !bit (y : Int) i) = 0 from by omega, sumN_zero]
  constructor
  · intro h i hi ha
    have := h i hi
    simpa [ha] using this
  · intro h i hi
    cases ha : bit (x : Int) i with
    | false => rfl
    | true => simp [h i hi ha]
end Go.Proofs.WK
namespace Go.Proofs.WK
theorem bl_lt (x y : List UInt8) : Op.bytesLess x y = true ↔ x < y := by rw [bl_eq]; simp
theorem slt_lt {a b : ByteArray} : slt a b = true ↔ a.data.toList < b.data.toList := by unfold slt; rw [bl_lt, toList_data, toList_data]
/-- Strictly sorted lists with the same elements are one. -/
theorem srt_ext : ∀ {a b : List ByteArray}, Srt a → Srt b → (∀ x, x ∈ a ↔ x ∈ b) → a = b
  | [], [], _, _, _ => rfl
  | [], y :: _, _, _, h => by have := (h y).2 (List.mem_cons_self ..); cases this
  | x :: _, [], _, _, h => by have := (h x).1 (List.mem_cons_self ..); cases this
  | x :: a, y :: b, ha, hb, h => by
    have ha' := List.pairwise_cons.1 ha
    have hb' := List.pairwise_cons.1 hb
    have e : x = y := by
      rcases List.mem_cons.1 ((h x).1 (List.mem_cons_self ..)) with e | hx
      · exact e
      · rcases List.mem_cons.1 ((h y).2 (List.mem_cons_self ..)) with e | hy
        · exact e.symm
        · have h1 := slt_trans (hb'.1 x hx) (ha'.1 y hy)
          rw [slt_irrefl] at h1
          cases h1
    subst e
    congr 1
    refine srt_ext ha'.2 hb'.2 fun z => ⟨fun hz => ?_, fun hz => ?_⟩
    · rcases List.mem_cons.1 ((h z).1 (List.mem_cons_of_mem _ hz)) with e | h1
      · subst e
        have := ha'.1 z hz
        rw [slt_irrefl] at this
        cases this
      · exact h1
    · rcases List.mem_cons.1 ((h z).2 (List.mem_cons_of_mem _ hz)) with e | h1
      · subst e
        have := hb'.1 z hz
        rw [slt_irrefl] at this
        cases this
      · exact h1
/-- What sort.Strings and slices.Sort leave. -/
def sortS (l : List ByteArray) : List ByteArray := ((l.map (·.data.toList)).mergeSort fun x y => decide (x ≤ y)).map fun x => ⟨x.toArray⟩
theorem toL_inj {a b : ByteArray} (h : a.data.toList = b.data.toList) : a = b := by
  cases a; cases b
  simp at h
  subst h
  rfl
theorem mem_sortS {l : List ByteArray} {x : ByteArray} : x ∈ sortS l ↔ x ∈ l := by
  unfold sortS
  simp only [List.mem_map, List.mem_mergeSort]
  constructor
  · rintro ⟨_, ⟨a, ha, rfl⟩, rfl⟩
    exact ha
  · intro h
    exact ⟨x.data.toList, ⟨x, h, rfl⟩, rfl⟩
theorem length_sortS (l : List ByteArray) : (sortS l).length = l.length := by unfold sortS; simp
theorem srt_sortS {l : List ByteArray} (h : l.Nodup) : Srt (sortS l) := by
  unfold sortS Srt
  rw [List.pairwise_map]
  have hs := List.pairwise_mergeSort (le := fun x y : List UInt8 => decide (x ≤ y)) (fun a b c h1 h2 => by simp only [decide_eq_true_eq] at *; exact List.le_trans h1 h2) (fun a b => by simp only [Bool.or_eq_true, decide_eq_true_eq]; exact List.le_total a b) (l.map (·.data.toList))
  have hn : ((l.map (·.data.toList)).mergeSort fun x y => decide (x ≤ y)).Nodup := by
    rw [(List.mergeSort_perm _ _).nodup_iff, List.nodup_iff_pairwise_ne, List.pairwise_map]
    exact (List.nodup_iff_pairwise_ne.1 h).imp fun hab e => hab (toL_inj e)
  have h2 := hs.and (List.nodup_iff_pairwise_ne.1 hn)
  refine h2.imp fun {x y} hxy => ?_
  rw [slt_lt]
  simp only [decide_eq_true_eq] at hxy
  show x < y
  rcases bl_tri x y with h3 | h3 | h3
  · exact (bl_lt _ _).1 h3
  · exact absurd h3 hxy.2
  · exact absurd ((bl_lt _ _).1 h3) (List.not_lt.2 hxy.1)
end Go.Proofs.WK
namespace Go.Proofs.WK
@[reducible] def memDec {α : Type} [DecidableEq α] (x : α) (l : List α) : Decidable (x ∈ l) := inferInstance
instance memB (x : ByteArray) (l : List ByteArray) : Decidable (x ∈ l) := memDec x l
end Go.Proofs.WK
namespace Go.Proofs.WK

def upAt (up : List Int) (i : Nat) : Int := up[i]?.getD 0
theorem upAt_get {up : List Int} {i : Nat} (h : i < up.length) : upAt up i = up[i] := by simp [upAt, h]
def upOne (up : List Int) (i : Nat) : Bool := decide (0 ≤ upAt up i) && decide (upAt up i < 2 ^ i)
def upOkK (up : List Int) (k : Nat) : Bool := (List.range k).all (upOne up)
def roleErr (up : List Int) : Int := if 8 < up.length then 2 else if upOkK up up.length = true then 0 else 1
theorem upOkK_step (up : List Int) (k : Nat) : upOkK up (k + 1) = (upOkK up k && upOne up k) := by simp [upOkK, List.range_succ]
theorem upOkK_le {up : List Int} {k n : Nat} (h : upOkK up n = true) (hk : k < n) : upOne up k = true := by
  unfold upOkK at h
  rw [List.all_eq_true] at h
  exact h k (by simpa using hk)
theorem roleErr_ok {up : List Int} (h : roleErr up = 0) : up.length ≤ 8 ∧ ∀ k, k < up.length → 0 ≤ upAt up k ∧ upAt up k < 2 ^ k := by
  unfold roleErr at h
  split at h
  · cases h
  · split at h
    · refine ⟨by omega, fun k hk => ?_⟩
      have := upOkK_le ‹_› hk
      simpa [upOne] using this
    · cases h
/-- Role k comes with role i, by a chain. -/
inductive Reach (up : List Int) : Nat → Nat → Prop
  | refl (i : Nat) : Reach up i i
  | step {i j k : Nat} (h : bit (upAt up i) j = true) (hr : Reach up j k) : Reach up i k
theorem Reach.snoc {up : List Int} {i k j : Nat} (h : Reach up i k) (hb : bit (upAt up k) j = true) : Reach up i j := by
  induction h with
  | refl i => exact .step hb (.refl j)
  | step h _ ih => exact .step h (ih hb)
/-- wyref.Comes, with fuel. -/
def comesN (up : List Int) (k : Int) : Nat → Nat → Bool
  | 0, _ => false
  | f + 1, i => decide ((i : Int) = k) || (List.range i).any fun j => bit (upAt up i) j && comesN up k f j
def comesK (up : List Int) (k : Int) (f i n : Nat) : Bool := (List.range n).any fun j => bit (upAt up i) j && comesN up k f j
theorem comesK_step (up : List Int) (k : Int) (f i n : Nat) : comesK up k f i (n + 1) = (comesK up k f i n || (bit (upAt up i) n && comesN up k f n)) := by simp [comesK, List.range_succ]
theorem comesK_hit {up : List Int} {k : Int} {f i n m : Nat} (hn : n < m) (h1 : bit (upAt up i) n = true) (h2 : comesN up k f n = true) : comesK up k f i m = true := by
  unfold comesK
  rw [List.any_eq_true]
  exact ⟨n, by simpa using hn, by rw [h1, h2]; rfl⟩
theorem bit_lt {n : Int} {k j : Nat} (h0 : 0 ≤ n) (h : n < 2 ^ k) (hb : bit n j = true) : j < k := by
  refine Nat.lt_of_not_le fun hk => ?_
  obtain ⟨x, rfl⟩ := Int.eq_ofNat_of_zero_le h0
  rw [bit_nat] at hb
  have h1 : 2 ^ k ≤ 2 ^ j := Nat.pow_le_pow_right (by omega) hk
  have h2 : ((2 ^ k : Nat) : Int) = 2 ^ k := by simp
  rw [Nat.testBit_lt_two_pow (by omega)] at hb
  cases hb
def UpOk (up : List Int) : Prop := ∀ k, k < up.length → 0 ≤ upAt up k ∧ upAt up k < 2 ^ k
theorem bit_zero (j : Nat) : bit 0 j = false := by simp [bit]
theorem UpOk.edge {up : List Int} (h : UpOk up) {i j : Nat} (hb : bit (upAt up i) j = true) : j < i := by
  by_cases hi : i < up.length
  · exact bit_lt (h i hi).1 (h i hi).2 hb
  · rw [show upAt up i = 0 from by simp [upAt, Nat.le_of_not_lt hi], bit_zero] at hb
    cases hb
theorem Reach.le {up : List Int} (h : UpOk up) {i k : Nat} (hr : Reach up i k) : k ≤ i := by
  induction hr with
  | refl => exact Nat.le_refl _
  | step hb _ ih => exact Nat.le_trans ih (Nat.le_of_lt (h.edge hb))
theorem comesN_iff {up : List Int} (h : UpOk up) : ∀ (f i k : Nat), i < f → (comesN up (k : Int) f i = true ↔ Reach up i k)
  | 0, _, _, hf => by omega
  | f + 1, i, k, hf => by
    unfold comesN
    rw [Bool.or_eq_true, decide_eq_true_eq, List.any_eq_true]
    constructor
    · rintro (e | ⟨j, hj, hb⟩)
      · obtain rfl : i = k := by omega
        exact .refl i
      · rw [Bool.and_eq_true] at hb
        have hji : j < i := by simpa using hj
        exact .step hb.1 ((comesN_iff h f j k (by omega)).1 hb.2)
    · intro hr
      cases hr with
      | refl => exact .inl rfl
      | step hb hr =>
        have hji := h.edge hb
        exact .inr ⟨_, by simpa using hji, by rw [Bool.and_eq_true]; exact ⟨hb, (comesN_iff h f _ k (by omega)).2 hr⟩⟩
theorem comesN_neg (up : List Int) {k : Int} (hk : k < 0) : ∀ (f i : Nat), comesN up k f i = false
  | 0, _ => rfl
  | f + 1, i => by
    unfold comesN
    rw [decide_eq_false (by omega), Bool.false_or, List.any_eq_false]
    intro j _
    simp [comesN_neg up hk f j]
/-- Does role k come with role i? -/
def comes (up : List Int) (i : Nat) (k : Int) : Bool := comesN up k 9 i
theorem comes_iff {up : List Int} (h : UpOk up) {i k : Nat} (hi : i < 9) : comes up i k = true ↔ Reach up i k := comesN_iff h 9 i k hi

/-! ### role.All: from role i downwards -/
/-- What out holds ahead of the round of role k (the roles from k on have been looked at). -/
structure AllAt (up : List Int) (i : Nat) (k : Nat) (out : Nat) : Prop where
  self : out.testBit i = true
  sound : ∀ j, out.testBit j = true → Reach up i j
  closed : ∀ m, k ≤ m → out.testBit m = true → ∀ j, bit (upAt up m) j = true → out.testBit j = true
theorem AllAt.start (up : List Int) (i : Nat) : AllAt up i (i + 1) (2 ^ i) where
  self := Nat.testBit_two_pow_self ..
  sound j hj := by
    rw [Nat.testBit_two_pow] at hj
    obtain rfl : i = j := by simpa using hj
    exact .refl _
  closed m hm hb := by
    rw [Nat.testBit_two_pow] at hb
    have : i = m := by simpa using hb
    omega
theorem AllAt.no {up : List Int} {i k out : Nat} (h : AllAt up i (k + 1) out) (hb : out.testBit k = false) : AllAt up i k out :=
  ⟨h.self, h.sound, fun m hm hbm j hj => by
    rcases Nat.lt_or_ge k m with h1 | h1
    · exact h.closed m h1 hbm j hj
    · obtain rfl : m = k := by omega
      rw [hb] at hbm
      cases hbm⟩
theorem AllAt.yes {up : List Int} {i k out u : Nat} (ho : UpOk up) (h : AllAt up i (k + 1) out) (hb : out.testBit k = true) (hu : upAt up k = (u : Int)) : AllAt up i k (out ||| u) where
  self := by rw [Nat.testBit_or, h.self]; rfl
  sound j hj := by
    rw [Nat.testBit_or, Bool.or_eq_true] at hj
    rcases hj with hj | hj
    · exact h.sound j hj
    · exact (h.sound k hb).snoc (by rw [hu, bit_nat]; exact hj)
  closed m hm hbm j hj := by
    rw [Nat.testBit_or, Bool.or_eq_true] at hbm ⊢
    rcases Nat.lt_or_ge k m with h1 | h1
    · rcases hbm with hbm | hbm
      · exact .inl (h.closed m h1 hbm j hj)
      · have := ho.edge (i := k) (j := m) (by rw [hu, bit_nat]; exact hbm)
        omega
    · obtain rfl : m = k := by omega
      rw [hu, bit_nat] at hj
      exact .inr hj
theorem AllAt.end_ {up : List Int} {i out : Nat} (h : AllAt up i 0 out) (j : Nat) : out.testBit j = true ↔ Reach up i j := by
  refine ⟨h.sound j, fun hr => ?_⟩
  have key : ∀ a b, Reach up a b → out.testBit a = true → out.testBit b = true := by
    intro a b hr
    induction hr with
    | refl => exact id
    | step hb _ ih => exact fun ha => ih (h.closed _ (Nat.zero_le _) ha _ hb)
  exact key i j hr h.self
theorem AllAt.lt {up : List Int} {i k out : Nat} (ho : UpOk up) (hi : i < 8) (h : AllAt up i k out) : out < 256 :=
  Nat.lt_pow_two_of_testBit (n := 8) _ fun j hj => Bool.eq_false_iff.2 fun hb => by
    have := (h.sound j hb).le ho
    omega
def allR (up : List Int) (i : Nat) : Nat := sumN 8 fun k => comes up i k
theorem AllAt.eq {up : List Int} {i out : Nat} (ho : UpOk up) (hi : i < 8) (h : AllAt up i 0 out) : out = allR up i := Nat.eq_of_testBit_eq fun j => by
  rw [allR, testBit_sumN, Bool.eq_iff_iff, h.end_ j, Bool.and_eq_true, decide_eq_true_eq, comes_iff ho (by omega)]
  exact ⟨fun hr => ⟨by have := hr.le ho; omega, hr⟩, fun hr => hr.2⟩
def allErr (up : List Int) (i : Int) : Int := if roleErr up = 0 then (if i < 0 ∨ up.length ≤ i then 4 else 0) else roleErr up
def allV (up : List Int) (i : Int) : Int := if allErr up i = 0 then allR up i.toNat else 0
theorem and_one {o k : Nat} (ho : o < 256) : bits .and .i64 ((o : Int) / 2 ^ k) 1 = if o.testBit k = true then 1 else 0 := by
  have h : ((o : Int) / 2 ^ k) = ((o / 2 ^ k : Nat) : Int) := by simp
  have h1 : o / 2 ^ k ≤ o := Nat.div_le_self _ _
  rw [h, show (1 : Int) = ((1 : Nat) : Int) from rfl, and_n _ _ (by omega) (by omega), Nat.and_one_is_mod, Nat.testBit_eq_decide_div_mod_eq]
  by_cases h2 : o / 2 ^ k % 2 = 1
  · simp [h2]
  · have : o / 2 ^ k % 2 = 0 := by omega
    simp [this]
theorem bit_allR (up : List Int) (i k : Nat) : bit (allR up i : Int) k = (decide (k < 8) && comes up i k) := by rw [allR, bit_sumN]
theorem comes_far {up : List Int} (ho : UpOk up) {i k : Nat} (hi : i < 9) (hk : i < k) : comes up i k = false := Bool.eq_false_iff.2 fun h => by
  have := ((comes_iff ho hi).1 h).le ho
  omega
end Go.Proofs.WK
