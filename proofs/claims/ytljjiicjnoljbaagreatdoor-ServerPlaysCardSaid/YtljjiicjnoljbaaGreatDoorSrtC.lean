/-
  slices.Compact of a sorted list, as plain data. No program.
-/
import Derived.Test.YtljjiicjnoljbaaGreatDoorPl0
import Derived.Lib.SlicesCompact
namespace Go.Proofs.WK
theorem lt_of_le_ne {a b : List UInt8} (h : a ≤ b) (hne : a ≠ b) : a < b := by
  rcases bl_tri a b with h3 | h3 | h3
  · exact (bl_lt _ _).1 h3
  · exact absurd h3 hne
  · exact absurd ((bl_lt _ _).1 h3) (List.not_lt.2 h)
theorem lt_of_le_lt {a b c : List UInt8} (h : a ≤ b) (h' : b < c) : a < c := by
  by_cases e : a = b
  · subst e; exact h'
  · exact List.lt_trans (lt_of_le_ne h e) h'
theorem upto_sorted {zs : List (List UInt8)} (hs : zs.Pairwise fun x y => x ≤ y) : ∀ m, m ≤ zs.length → (Lib.compactUpTo zs.toArray m).Pairwise (fun x y => x < y) ∧ ∀ x, x ∈ Lib.compactUpTo zs.toArray m ↔ ∃ j, ∃ h : j < zs.length, j < m ∧ zs[j] = x
  | 0, _ => by
    refine ⟨by simp [Lib.compactUpTo], fun x => ?_⟩
    simp [Lib.compactUpTo]
  | m + 1, hm => by
    obtain ⟨ih1, ih2⟩ := upto_sorted hs m (by omega)
    have hml : m < zs.length := by omega
    have hd : zs.toArray[m]! = zs[m] := by simp [getElem!_pos, hml]
    rw [Lib.compactUpTo_succ]
    by_cases hk : Lib.keeps zs.toArray m = true
    · rw [if_pos hk, hd]
      constructor
      · refine List.pairwise_append.2 ⟨ih1, by simp, fun a ha b hb => ?_⟩
        simp at hb
        subst hb
        obtain ⟨j, hj, hjm, rfl⟩ := (ih2 a).1 ha
        have hm1 : m - 1 < zs.length := by omega
        have hne : zs[m - 1] ≠ zs[m] := by
          simp [Lib.keeps] at hk
          rcases hk with hk | hk
          · omega
          · intro e
            apply hk
            simp [hml, hm1, e]
        have h1 : zs[j] ≤ zs[m - 1] := by
          by_cases e : j = m - 1
          · subst e; exact List.le_refl _
          · exact List.pairwise_iff_getElem.1 hs j (m - 1) hj hm1 (by omega)
        have h2 : zs[m - 1] ≤ zs[m] := List.pairwise_iff_getElem.1 hs (m - 1) m hm1 hml (by omega)
        exact lt_of_le_lt h1 (lt_of_le_ne h2 hne)
      · intro x
        rw [List.mem_append, ih2]
        constructor
        · rintro (⟨j, hj, h1, h2⟩ | h1)
          · exact ⟨j, hj, by omega, h2⟩
          · simp at h1; exact ⟨m, hml, by omega, h1.symm⟩
        · rintro ⟨j, hj, h1, h2⟩
          by_cases e : j = m
          · subst e; exact .inr (by simp [h2])
          · exact .inl ⟨j, hj, by omega, h2⟩
    · rw [if_neg hk, List.append_nil]
      refine ⟨ih1, fun x => ?_⟩
      rw [ih2]
      constructor
      · rintro ⟨j, hj, h1, h2⟩; exact ⟨j, hj, by omega, h2⟩
      · rintro ⟨j, hj, h1, h2⟩
        by_cases e : j = m
        · subst e
          simp [Lib.keeps] at hk
          have hm1 : j - 1 < zs.length := by omega
          refine ⟨j - 1, hm1, by omega, ?_⟩
          have := hk.2
          simp [hml, hm1] at this
          rw [← h2, this]
        · exact ⟨j, hj, by omega, h2⟩
/-- What slices.Compact leaves. -/
def compS (l : List ByteArray) : List ByteArray := (Lib.compact (l.map (·.data.toList))).map fun x => ⟨x.toArray⟩
theorem map_sortS' (l : List ByteArray) : (sortS l).map (·.data.toList) = (l.map (·.data.toList)).mergeSort fun x y => decide (x ≤ y) := by
  unfold sortS
  rw [List.map_map]
  exact (List.map_congr_left (g := id) fun x _ => rfl).trans (List.map_id _)
theorem comp_sort (l : List ByteArray) : Srt (compS (sortS l)) ∧ ∀ x, x ∈ compS (sortS l) ↔ x ∈ l := by
  have hs := List.pairwise_mergeSort (le := fun x y : List UInt8 => decide (x ≤ y)) (fun a b c h1 h2 => by simp only [decide_eq_true_eq] at *; exact List.le_trans h1 h2) (fun a b => by simp only [Bool.or_eq_true, decide_eq_true_eq]; exact List.le_total a b) (l.map (·.data.toList))
  unfold compS
  rw [map_sortS']
  generalize hz : ((l.map (·.data.toList)).mergeSort fun x y => decide (x ≤ y)) = zs at hs ⊢
  have hs' : zs.Pairwise fun x y => x ≤ y := hs.imp fun h => by simpa using h
  obtain ⟨h1, h2⟩ := upto_sorted hs' zs.length (Nat.le_refl _)
  constructor
  · unfold Srt
    rw [List.pairwise_map]
    exact h1.imp fun h => by rw [slt_lt]; simpa using h
  · intro x
    have hm : ∀ y, y ∈ zs ↔ ∃ a ∈ l, a.data.toList = y := fun y => by rw [← hz, List.mem_mergeSort, List.mem_map]
    rw [List.mem_map]
    constructor
    · rintro ⟨y, hy, rfl⟩
      obtain ⟨j, hj, _, rfl⟩ := (h2 y).1 hy
      obtain ⟨a, ha, e⟩ := (hm _).1 (List.getElem_mem hj)
      rw [← e]
      exact ha
    · intro hx
      obtain ⟨j, hj, e⟩ := List.getElem_of_mem ((hm _).2 ⟨x, hx, rfl⟩)
      exact ⟨_, (h2 _).2 ⟨j, hj, hj, e⟩, rfl⟩
end Go.Proofs.WK
