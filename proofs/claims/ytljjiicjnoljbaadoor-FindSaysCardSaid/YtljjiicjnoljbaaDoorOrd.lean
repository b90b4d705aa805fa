/-
  The order of texts (bytes, as Go compares strings), sorted lists of them. No program.
-/
import Derived.Laws.Strings
import GoSem.Op.String
namespace Go.Proofs.WK

theorem toList_data (s : ByteArray) : s.toList = s.data.toList := by
  show ByteArray.toList.loop s 0 [] = _
  rw [ByteArray.toList_loop_eq s s.size 0 [] (by omega) (by omega)]
  simp
theorem str_ext {a b : ByteArray} (h : a.toList = b.toList) : a = b := by
  rw [toList_data, toList_data] at h
  cases a; cases b
  simp at h
  subst h
  rfl
theorem toList_eq_iff {a b : ByteArray} : a.toList = b.toList ↔ a = b := ⟨str_ext, fun h => h ▸ rfl⟩
theorem toList_beq (a b : ByteArray) : (a.toList == b.toList) = decide (a = b) := by
  by_cases h : a = b
  · simp [h]
  · have : ¬ a.toList = b.toList := fun e => h (str_ext e)
    simp [h, this]

theorem bl_eq : ∀ (x y : List UInt8), Op.bytesLess x y = decide (x < y)
  | [], [] => by simp [Op.bytesLess]
  | _ :: _, [] => by simp [Op.bytesLess]
  | [], _ :: _ => by simp [Op.bytesLess]
  | a :: x, b :: y => by
    rw [Op.bytesLess, bl_eq x y]
    simp only [List.cons_lt_cons_iff]
    by_cases h1 : a < b <;> by_cases h2 : a = b <;> by_cases h3 : x < y <;> simp [h1, h2, h3]
theorem bl_irrefl (x : List UInt8) : Op.bytesLess x x = false := by
  induction x with
  | nil => rfl
  | cons a x ih => simp [Op.bytesLess, ih, UInt8.lt_irrefl]
theorem bl_trans : ∀ {x y z : List UInt8}, Op.bytesLess x y = true → Op.bytesLess y z = true → Op.bytesLess x z = true
  | [], [], _, h, _ => by simp [Op.bytesLess] at h
  | [], _ :: _, [], _, h => by simp [Op.bytesLess] at h
  | [], _ :: _, _ :: _, _, _ => by simp [Op.bytesLess]
  | _ :: _, [], _, h, _ => by simp [Op.bytesLess] at h
  | _ :: _, _ :: _, [], _, h => by simp [Op.bytesLess] at h
  | a :: x, b :: y, c :: z, h, k => by
    simp only [Op.bytesLess, Bool.or_eq_true, Bool.and_eq_true, decide_eq_true_eq, beq_iff_eq] at h k ⊢
    rcases h with h | ⟨rfl, h⟩
    · rcases k with k | ⟨rfl, k⟩
      · exact .inl (UInt8.lt_trans h k)
      · exact .inl h
    · rcases k with k | ⟨rfl, k⟩
      · exact .inl k
      · exact .inr ⟨rfl, bl_trans h k⟩
theorem bl_tri : ∀ (x y : List UInt8), Op.bytesLess x y = true ∨ x = y ∨ Op.bytesLess y x = true
  | [], [] => .inr (.inl rfl)
  | [], _ :: _ => .inl (by simp [Op.bytesLess])
  | _ :: _, [] => .inr (.inr (by simp [Op.bytesLess]))
  | a :: x, b :: y => by
    simp only [Op.bytesLess, Bool.or_eq_true, Bool.and_eq_true, decide_eq_true_eq, beq_iff_eq]
    rcases Nat.lt_trichotomy a.toNat b.toNat with h | h | h
    · exact .inl (.inl h)
    · have : a = b := UInt8.toNat_inj.1 h
      subst this
      rcases bl_tri x y with k | rfl | k
      · exact .inl (.inr ⟨rfl, k⟩)
      · exact .inr (.inl rfl)
      · exact .inr (.inr (.inr ⟨rfl, k⟩))
    · exact .inr (.inr (.inl h))

/-- Go's '<' on texts. -/
def slt (a b : ByteArray) : Bool := Op.bytesLess a.toList b.toList
theorem slt_irrefl (a : ByteArray) : slt a a = false := bl_irrefl _
theorem slt_trans {a b c : ByteArray} (h : slt a b = true) (k : slt b c = true) : slt a c = true := bl_trans h k
theorem slt_tri (a b : ByteArray) : slt a b = true ∨ a = b ∨ slt b a = true := by
  rcases bl_tri a.toList b.toList with h | h | h
  · exact .inl h
  · exact .inr (.inl (str_ext h))
  · exact .inr (.inr h)
theorem slt_asymm {a b : ByteArray} (h : slt a b = true) : slt b a = false := by
  cases k : slt b a with
  | false => rfl
  | true => have := slt_trans h k; rw [slt_irrefl] at this; cases this
theorem slt_ne {a b : ByteArray} (h : slt a b = true) : a ≠ b := by
  rintro rfl
  rw [slt_irrefl] at h
  cases h
/-- Not below: equal or above. -/
theorem slt_false {a b : ByteArray} (h : slt a b = false) : a = b ∨ slt b a = true := by
  rcases slt_tri a b with k | k | k
  · rw [h] at k; cases k
  · exact .inl k
  · exact .inr k

/-- In order, none twice. -/
def Srt (l : List ByteArray) : Prop := l.Pairwise (fun a b => slt a b = true)
/-- The same, neighbour by neighbour, as the code asks. -/
def srtB : List ByteArray → Bool
  | [] => true
  | [_] => true
  | a :: b :: l => slt a b && srtB (b :: l)
theorem srtB_iff : ∀ l : List ByteArray, srtB l = true ↔ Srt l
  | [] => by simp [srtB, Srt]
  | [_] => by simp [srtB, Srt]
  | a :: b :: l => by
    have ih := srtB_iff (b :: l)
    simp only [srtB, Bool.and_eq_true, ih, Srt, List.pairwise_cons]
    constructor
    · rintro ⟨h, h1, h2⟩
      refine ⟨fun x hx => ?_, h1, h2⟩
      rcases List.mem_cons.1 hx with rfl | hx
      · exact h
      · exact slt_trans h (h1 x hx)
    · rintro ⟨h, h1, h2⟩
      exact ⟨h b (List.mem_cons_self ..), h1, h2⟩
/-- One more. -/
theorem srtB_snoc (l : List ByteArray) (k : Nat) (h : k + 1 < l.length) : srtB (l.take (k + 2)) = (srtB (l.take (k + 1)) && slt l[k] l[k + 1]) := by
  induction l generalizing k with
  | nil => simp at h
  | cons a l ih =>
    cases k with
    | zero =>
      match l, h with
      | b :: l, _ => simp [srtB]
    | succ k =>
      have h1 : k + 1 < l.length := by simpa using h
      have ih1 := ih k h1
      match l, h1, ih1 with
      | b :: l, h1, ih1 =>
        simp only [List.take_succ_cons, srtB, List.getElem_cons_succ] at ih1 ⊢
        rw [ih1, Bool.and_assoc]
theorem srtB_at (l : List ByteArray) (k : Nat) (h0 : 0 < k) (h : k < l.length) : srtB (l.take (k + 1)) = (srtB (l.take k) && slt (l[k - 1]'(by omega)) l[k]) := by
  obtain ⟨j, rfl⟩ : ∃ j, k = j + 1 := ⟨k - 1, by omega⟩
  exact srtB_snoc l j h
theorem srt_take {l : List ByteArray} (h : srtB l = true) (k : Nat) : srtB (l.take k) = true := (srtB_iff _).2 (List.Pairwise.sublist (List.take_sublist k l) ((srtB_iff _).1 h))
end Go.Proofs.WK
