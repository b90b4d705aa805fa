/-
  Sorted lists of texts: one list for one set. No program.
-/
import Derived.Test.YtljjiicjnoljbaaDoorOrd
namespace Go.Proofs.WK
theorem bl_lt (x y : List UInt8) : Op.bytesLess x y = true ↔ x < y := by rw [bl_eq]; simp
theorem slt_lt {a b : ByteArray} : slt a b = true ↔ a.data.toList < b.data.toList := by unfold slt; rw [bl_lt, toList_data, toList_data]
/-- Strictly sorted lists with the same elements are one. -/
theorem srt_ext : ∀ {a b : List ByteArray}, Srt a → Srt b → (∀ x, x ∈ a ↔ x ∈ b) → a = b
  | [], [], _, _, _ => rfl
  | [], y :: _, _, _, h => by have := (h y).2 (List.mem_cons_self ..); cases this
  | x :: _, [], _, _, h => by have := (h x).1 (List.mem_cons_self ..); cases this
  | x :: a, y :: b, ha, hb, h => by
    have ha' := List.pairwise_cons.1 ha
    have hb' := List.pairwise_cons.1 hb
    have e : x = y := by
      rcases List.mem_cons.1 ((h x).1 (List.mem_cons_self ..)) with e | hx
      · exact e
      · rcases List.mem_cons.1 ((h y).2 (List.mem_cons_self ..)) with e | hy
        · exact e.symm
        · have h1 := slt_trans (hb'.1 x hx) (ha'.1 y hy)
          rw [slt_irrefl] at h1
          cases h1
    subst e
    congr 1
    refine srt_ext ha'.2 hb'.2 fun z => ⟨fun hz => ?_, fun hz => ?_⟩
    · rcases List.mem_cons.1 ((h z).1 (List.mem_cons_of_mem _ hz)) with e | h1
      · subst e
        have := ha'.1 z hz
        rw [slt_irrefl] at this
        cases this
      · exact h1
    · rcases List.mem_cons.1 ((h z).2 (List.mem_cons_of_mem _ hz)) with e | h1
      · subst e
        have := hb'.1 z hz
        rw [slt_irrefl] at this
        cases this
      · exact h1
/-- What sort.Strings and slices.Sort leave. -/
def sortS (l : List ByteArray) : List ByteArray := ((l.map (·.data.toList)).mergeSort fun x y => decide (x ≤ y)).map fun x => ⟨x.toArray⟩
theorem toL_inj {a b : ByteArray} (h : a.data.toList = b.data.toList) : a = b := by
  cases a; cases b
  simp at h
  subst h
  rfl
theorem mem_sortS {l : List ByteArray} {x : ByteArray} : x ∈ sortS l ↔ x ∈ l := by
  unfold sortS
  simp only [List.mem_map, List.mem_mergeSort]
  constructor
  · rintro ⟨_, ⟨a, ha, rfl⟩, rfl⟩
    exact ha
  · intro h
    exact ⟨x.data.toList, ⟨x, h, rfl⟩, rfl⟩
theorem length_sortS (l : List ByteArray) : (sortS l).length = l.length := by unfold sortS; simp
theorem srt_sortS {l : List ByteArray} (h : l.Nodup) : Srt (sortS l) := by
  unfold sortS Srt
  rw [List.pairwise_map]
  have hs := List.pairwise_mergeSort (le := fun x y : List UInt8 => decide (x ≤ y)) (fun a b c h1 h2 => by simp only [decide_eq_true_eq] at *; exact List.le_trans h1 h2) (fun a b => by simp only [Bool.or_eq_true, decide_eq_true_eq]; exact List.le_total a b) (l.map (·.data.toList))
  have hn : ((l.map (·.data.toList)).mergeSort fun x y => decide (x ≤ y)).Nodup := by
    rw [(List.mergeSort_perm _ _).nodup_iff, List.nodup_iff_pairwise_ne, List.pairwise_map]
    exact (List.nodup_iff_pairwise_ne.1 h).imp fun hab e => hab (toL_inj e)
  have h2 := hs.and (List.nodup_iff_pairwise_ne.1 hn)
  refine h2.imp fun {x y} hxy => ?_
  rw [slt_lt]
  simp only [decide_eq_true_eq] at hxy
  show x < y
  rcases bl_tri x y with h3 | h3 | h3
  · exact (bl_lt _ _).1 h3
  · exact absurd h3 hxy.2
  · exact absurd ((bl_lt _ _).1 h3) (List.not_lt.2 hxy.1)
end Go.Proofs.WK
