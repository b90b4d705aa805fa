/-
  Records as plain data (P14 to P18). No program.
-/
import Derived.Test.YtljjiicjnoljbaaDoorTy
import Derived.Test.YtljjiicjnoljbaaDoorOrd
namespace Go.Proofs.WK
def idB (c : UInt8) : Bool := (decide (97 ≤ c.toNat) && decide (c.toNat ≤ 122)) || (decide (48 ≤ c.toNat) && decide (c.toNat ≤ 57))
/-- P14. -/
def idOk (s : ByteArray) : Bool := decide (1 ≤ s.size) && decide (s.size ≤ 8) && s.data.toList.all idB
def valB (c : UInt8) : Bool := decide (33 ≤ c.toNat) && decide (c.toNat ≤ 126) && decide (c.toNat ≠ 44) && decide (c.toNat ≠ 59) && decide (c.toNat ≠ 61)
/-- P15. -/
def valOk (s : ByteArray) : Bool := decide (s.size ≤ 12) && s.data.toList.all valB
def fldOk (f : Fld) : Bool := idOk f.key && valOk f.val
def fldsOk (l : List Fld) : Bool := l.all fldOk && srtB (l.map (·.key))
def refsOk (l : List ByteArray) : Bool := l.all idOk && srtB l
/-- P16. -/
def recErr (r : Rec) : Int :=
  if idOk r.id = false then 3 else if ¬ (0 ≤ r.cats ∧ r.cats ≤ 255) then 1 else if 6 < r.fields.length ∨ 4 < r.refs.length then 2 else if fldsOk r.fields = true ∧ refsOk r.refs = true then 0 else 3
theorem recErr_id {r : Rec} (h : idOk r.id = false) : recErr r = 3 := if_pos h
theorem recErr_cats {r : Rec} (h : idOk r.id = true) (h1 : ¬ (0 ≤ r.cats ∧ r.cats ≤ 255)) : recErr r = 1 := by rw [recErr, if_neg (by simp [h]), if_pos h1]
theorem recErr_len {r : Rec} (h : idOk r.id = true) (h1 : 0 ≤ r.cats ∧ r.cats ≤ 255) (h2 : 6 < r.fields.length ∨ 4 < r.refs.length) : recErr r = 2 := by rw [recErr, if_neg (by simp [h]), if_neg (by simp [h1]), if_pos h2]
theorem recErr_end {r : Rec} (h : idOk r.id = true) (h1 : 0 ≤ r.cats ∧ r.cats ≤ 255) (h2 : ¬ (6 < r.fields.length ∨ 4 < r.refs.length)) : recErr r = if fldsOk r.fields = true ∧ refsOk r.refs = true then 0 else 3 := by rw [recErr, if_neg (by simp [h]), if_neg (by simp [h1]), if_neg h2]
theorem rec_ok {r : Rec} (h : recErr r = 0) : idOk r.id = true ∧ 0 ≤ r.cats ∧ r.cats ≤ 255 ∧ r.fields.length ≤ 6 ∧ r.refs.length ≤ 4 ∧ fldsOk r.fields = true ∧ refsOk r.refs = true := by
  unfold recErr at h
  split at h
  · cases h
  · rename_i h0
    split at h
    · cases h
    · rename_i h1
      split at h
      · cases h
      · rename_i h2
        split at h
        · rename_i h3
          refine ⟨by simpa using h0, ?_, ?_, by omega, by omega, h3.1, h3.2⟩ <;> omega
        · cases h
theorem idOk_size {s : ByteArray} (h : idOk s = true) : 1 ≤ s.size ∧ s.size ≤ 8 := by
  unfold idOk at h
  simp only [Bool.and_eq_true, decide_eq_true_eq] at h
  exact h.1
/-- One byte more. -/
theorem all_step (p : UInt8 → Bool) {s : ByteArray} {k : Nat} (hk : k < s.size) : (s.data.toList.take (k + 1)).all p = ((s.data.toList.take k).all p && p s[k]) := by
  have h : k < s.data.toList.length := by simpa using hk
  rw [List.take_succ_eq_append_getElem h, List.all_append]
  simp
  rfl
theorem all_hit {p : UInt8 → Bool} {s : ByteArray} {k : Nat} (hk : k < s.size) (h : p s[k] = false) : s.data.toList.all p = false := by
  rw [List.all_eq_false]
  refine ⟨s[k], ?_, by simp [h]⟩
  have h1 : k < s.data.toList.length := by simpa using hk
  exact List.getElem_mem h1
/-! ### lists, element by element -/
theorem flds_step {l : List Fld} {k : Nat} (hk : k < l.length) : fldsOk (l.take (k + 1)) = (fldsOk (l.take k) && (fldOk l[k] && (decide (k = 0) || slt (l[k - 1]'(by omega)).key l[k].key))) := by
  unfold fldsOk
  rw [List.map_take, List.map_take]
  have h1 : (l.take (k + 1)).all fldOk = ((l.take k).all fldOk && fldOk l[k]) := by rw [List.take_succ_eq_append_getElem hk, List.all_append]; simp
  rw [h1]
  by_cases h0 : k = 0
  · subst h0
    have : srtB (List.take (0 + 1) (l.map (·.key))) = true := by
      match l, hk with
      | a :: _, _ => rfl
    rw [this]
    simp [srtB]
  · rw [srtB_at (l.map (·.key)) k (by omega) (by simpa using hk)]
    simp only [List.getElem_map, h0, decide_false, Bool.false_or]
    cases (l.take k).all fldOk <;> cases fldOk l[k] <;> cases srtB ((l.map (·.key)).take k) <;> simp
theorem refs_step {l : List ByteArray} {k : Nat} (hk : k < l.length) : refsOk (l.take (k + 1)) = (refsOk (l.take k) && (idOk l[k] && (decide (k = 0) || slt (l[k - 1]'(by omega)) l[k]))) := by
  unfold refsOk
  have h1 : (l.take (k + 1)).all idOk = ((l.take k).all idOk && idOk l[k]) := by rw [List.take_succ_eq_append_getElem hk, List.all_append]; simp
  rw [h1]
  by_cases h0 : k = 0
  · subst h0
    have : srtB (List.take (0 + 1) l) = true := by
      match l, hk with
      | a :: _, _ => rfl
    rw [this]
    simp [srtB]
  · rw [srtB_at l k (by omega) hk]
    simp only [h0, decide_false, Bool.false_or]
    cases (l.take k).all idOk <;> cases idOk l[k] <;> cases srtB (l.take k) <;> simp
theorem flds_le {l : List Fld} (h : fldsOk l = true) (k : Nat) : fldsOk (l.take k) = true := by
  unfold fldsOk at h ⊢
  rw [Bool.and_eq_true] at h ⊢
  rw [List.map_take]
  refine ⟨?_, srt_take h.2 k⟩
  rw [List.all_eq_true] at h ⊢
  exact fun x hx => h.1 x (List.mem_of_mem_take hx)
theorem refs_le {l : List ByteArray} (h : refsOk l = true) (k : Nat) : refsOk (l.take k) = true := by
  unfold refsOk at h ⊢
  rw [Bool.and_eq_true] at h ⊢
  refine ⟨?_, srt_take h.2 k⟩
  rw [List.all_eq_true] at h ⊢
  exact fun x hx => h.1 x (List.mem_of_mem_take hx)
theorem flds_bad {l : List Fld} {k : Nat} (hk : k < l.length) (h : (fldOk l[k] && (decide (k = 0) || slt (l[k - 1]'(by omega)).key l[k].key)) = false) : fldsOk l = false := Bool.eq_false_iff.2 fun h1 => by
  have h2 := flds_le h1 (k + 1)
  rw [flds_step hk, h, Bool.and_false] at h2
  cases h2
theorem refs_bad {l : List ByteArray} {k : Nat} (hk : k < l.length) (h : (idOk l[k] && (decide (k = 0) || slt (l[k - 1]'(by omega)) l[k])) = false) : refsOk l = false := Bool.eq_false_iff.2 fun h1 => by
  have h2 := refs_le h1 (k + 1)
  rw [refs_step hk, h, Bool.and_false] at h2
  cases h2
end Go.Proofs.WK
