/-
  The first error of a list. No program.
-/
namespace Go.Proofs.WK
def firstErr {α : Type} (f : α → Int) : List α → Int
  | [] => 0
  | a :: l => if f a = 0 then firstErr f l else f a
variable {α : Type} {f : α → Int}
theorem firstErr_app (l₁ l₂ : List α) : firstErr f (l₁ ++ l₂) = if firstErr f l₁ = 0 then firstErr f l₂ else firstErr f l₁ := by
  induction l₁ with
  | nil => simp [firstErr]
  | cons a l ih =>
    simp only [List.cons_append, firstErr]
    by_cases h : f a = 0
    · simp only [if_pos h]; exact ih
    · simp only [if_neg h]
theorem firstErr_step {l : List α} {k : Nat} (hk : k < l.length) (h : firstErr f (l.take k) = 0) : firstErr f (l.take (k + 1)) = f l[k] := by
  rw [List.take_succ_eq_append_getElem hk, firstErr_app, if_pos h]
  by_cases h0 : f l[k] = 0
  · simp [firstErr, h0]
  · simp [firstErr, h0]
theorem firstErr_hit {l : List α} {k : Nat} (hk : k < l.length) (h : firstErr f (l.take k) = 0) (h0 : f l[k] ≠ 0) : firstErr f l = f l[k] := by
  have e := firstErr_step hk h
  have e3 := firstErr_app (f := f) (l.take (k + 1)) (l.drop (k + 1))
  rw [List.take_append_drop, e, if_neg h0] at e3
  exact e3
theorem firstErr_none {l : List α} (h : firstErr f l = 0) : ∀ a ∈ l, f a = 0 := by
  induction l with
  | nil => intro a ha; cases ha
  | cons b l ih =>
    simp only [firstErr] at h
    by_cases hb : f b = 0
    · rw [if_pos hb] at h
      intro a ha
      rcases List.mem_cons.1 ha with rfl | ha
      · exact hb
      · exact ih h a ha
    · rw [if_neg hb] at h
      exact absurd h hb
end Go.Proofs.WK
