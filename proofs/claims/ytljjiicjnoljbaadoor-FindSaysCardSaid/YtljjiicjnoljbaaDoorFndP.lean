/-
  Records that are looked for (P28, P29), as plain data. No program.
-/
import Derived.Test.YtljjiicjnoljbaaDoorIdsP
namespace Go.Proofs.WK
/-- P28: among these names. -/
def byF (l : List Ver) (f : Fld) (ids : List ByteArray) : List ByteArray := ids.filter fun id => decide (f ∈ (getR l id).fields)
def byErr (l : List Ver) (f : Fld) : Int := if storeErr l ≠ 0 then storeErr l else if idOk f.key = true ∧ valOk f.val = true then 0 else 3
def byV (l : List Ver) (f : Fld) : List ByteArray := if byErr l f = 0 then byF l f (idsV l) else []
theorem byF_zero (l : List Ver) (f : Fld) (ids : List ByteArray) : byF l f (ids.take 0) = [] := rfl
theorem byF_step {l : List Ver} {f : Fld} {ids : List ByteArray} {k : Nat} (hk : k < ids.length) : byF l f (ids.take (k + 1)) = if f ∈ (getR l ids[k]).fields then byF l f (ids.take k) ++ [ids[k]] else byF l f (ids.take k) := by
  unfold byF
  rw [List.take_succ_eq_append_getElem hk, List.filter_append, List.filter_cons, List.filter_nil]
  by_cases h : f ∈ (getR l ids[k]).fields
  · simp [h]
  · simp [h]
theorem byF_len (l : List Ver) (f : Fld) (ids : List ByteArray) (k : Nat) : (byF l f (ids.take k)).length ≤ ids.length := Nat.le_trans (List.length_filter_le _ _) (by rw [List.length_take]; exact Nat.min_le_right _ _)
theorem by_ways (l : List Ver) (f : Fld) (h : storeErr l = 0) : ((idOk f.key = false) ∧ Aside (byErr l f = 3 ∧ byV l f = [])) ∨ ((idOk f.key = true ∧ valOk f.val = false) ∧ Aside (byErr l f = 3 ∧ byV l f = [])) ∨ ((idOk f.key = true ∧ valOk f.val = true) ∧ Aside (byErr l f = 0 ∧ byV l f = byF l f (idsV l))) := by
  cases h1 : idOk f.key
  · have e : byErr l f = 3 := by rw [byErr, if_neg (by simpa using h), if_neg (by simp [h1])]
    exact .inl ⟨rfl, ⟨e, by rw [byV, e]; rfl⟩⟩
  · cases h2 : valOk f.val
    · have e : byErr l f = 3 := by rw [byErr, if_neg (by simpa using h), if_neg (by simp [h2])]
      exact .inr (.inl ⟨⟨rfl, rfl⟩, ⟨e, by rw [byV, e]; rfl⟩⟩)
    · have e : byErr l f = 0 := by rw [byErr, if_neg (by simpa using h), if_pos ⟨h1, h2⟩]
      exact .inr (.inr ⟨⟨rfl, rfl⟩, ⟨e, by rw [byV, if_pos e]⟩⟩)
end Go.Proofs.WK
