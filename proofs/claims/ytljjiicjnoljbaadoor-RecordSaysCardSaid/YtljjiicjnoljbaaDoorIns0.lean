/-
  copy over rows of elements of any size, and a row of the call's own with an element put in between. No program.
-/
import Derived.Test.YtljjiicjnoljbaaDoorWk0
import Derived.Lib.AppendZerosOnto
import Derived.Lib.Overlaps
import Derived.Shelf.Spec.SlicesInsert
namespace Go.Proofs.WK
open Go.RowKit
section
variable {P : Program}
theorem run_copy_sz (w : World) (dT sT ty elem : TypeId) (sz b o dLen dCap : Nat) (a : Addr) (sLen sCap m : Nat) (cs : List Value)
    (hu : P.underlying dT = some (.slice elem)) (hs : (P.info? elem).map (·.size) = some sz) (hm : m = Nat.min sLen dLen) (hn : cs.length = m * sz)
    (hsrc : ∀ j v, cs[j]? = some v → w.cell? (a.add j) = some v) (hc : ∀ j, j < cs.length → (w.cell? ⟨b, o + j, none⟩).isSome = true) (hf : ∀ j, j < cs.length → w.frozen? ⟨b, o + j, none⟩ = false) (h1 : ∀ v ∈ cs, v.oneCell' = true) :
    (Builtin.copy_ #[dT, sT] ty #[.slice (some ⟨b, o, none⟩) dLen dCap, .slice (some a) sLen sCap]).run P w = .ok (goInt m) (w.setCells b o cs) := by
  have hl := run_loadCells_list (P := P) w a cs hsrc
  have hst := run_storeCells_cells (P := P) b o cs 0 w (by simpa using hc) (by simpa using hf) h1
  cases hq : P.info? elem with
  | none => simp [hq] at hs
  | some i =>
    have hi : i.size = sz := by simpa [hq] using hs
    rw [hn] at hl
    simp [Builtin.copy_, run_underlying hu, Builtin.lenOf, Builtin.firstCells, sizeOf, typeInfo, hq, hi, ← hm, hl, hst]
end
theorem over_eq (cs vs : List Value) (o : Nat) (h : o + vs.length ≤ cs.length) : over cs o vs = cs.take o ++ vs ++ cs.drop (o + vs.length) := by
  refine List.ext_getElem? fun j => ?_
  rw [over_get, List.getElem?_append, List.getElem?_append, List.getElem?_take, List.getElem?_drop, List.length_append, List.length_take, Nat.min_eq_left (by omega)]
  by_cases h1 : j < o
  · rw [if_neg (by omega), if_pos (by omega), if_pos h1, if_pos h1]
  · by_cases h2 : j < o + vs.length
    · rw [if_pos ⟨by omega, h2, by omega⟩, if_pos h2, if_neg h1]
    · rw [if_neg (by omega), if_neg h2]
      congr 1
      omega
namespace Rp
variable {α : Type} {R : α → List Value → Prop} {size : Nat} {ps : List α} {cs : List Value}
theorem Reps.takeN (h : Reps R size ps cs) (i : Nat) (hi : i ≤ ps.length) : Reps R size (ps.take i) (cs.take (i * size)) := by
  have hm : i * size ≤ ps.length * size := Nat.mul_le_mul_right _ hi
  refine ⟨by rw [List.length_take, List.length_take, h.1, Nat.min_eq_left hi, Nat.min_eq_left hm], fun j p hp => ?_⟩
  rw [List.getElem?_take] at hp
  split at hp
  · rename_i hj
    have h1 := h.2 j p hp
    have h2 : j * size + size ≤ i * size := by rw [← Nat.succ_mul]; exact Nat.mul_le_mul_right _ hj
    rw [List.drop_take, List.take_take, Nat.min_eq_left (by omega)]
    exact h1
  · cases hp
theorem Reps.dropN (h : Reps R size ps cs) (i : Nat) (hi : i ≤ ps.length) : Reps R size (ps.drop i) (cs.drop (i * size)) := by
  refine ⟨by rw [List.length_drop, List.length_drop, h.1, Nat.sub_mul], fun j p hp => ?_⟩
  rw [List.getElem?_drop] at hp
  have h1 := h.2 (i + j) p hp
  rw [List.drop_drop, ← Nat.add_mul]
  exact h1
theorem Reps.mono {R' : α → List Value → Prop} (h : Reps R size ps cs) (hR : ∀ p c, R p c → R' p c) : Reps R' size ps cs := ⟨h.1, fun j p hp => hR p _ (h.2 j p hp)⟩
theorem Reps.one_ {x : α} {c : List Value} (hx : R x c) (hc : c.length = size) : Reps R size [x] c := by
  have := Reps.snoc (ps := []) (cs := []) (R := R) (size := size) ⟨by simp, fun j p hp => by simp at hp⟩ hx hc
  simpa using this
/-- With an element in between. -/
theorem Reps.insert {x : α} {c : List Value} (h : Reps R size ps cs) (hx : R x c) (hc : c.length = size) (i : Nat) (hi : i ≤ ps.length) : Reps R size (ps.take i ++ x :: ps.drop i) (cs.take (i * size) ++ c ++ cs.drop (i * size)) := by
  have h1 := Reps.append (Reps.append (h.takeN i hi) (Reps.one_ hx hc)) (h.dropN i hi)
  rwa [List.append_assoc, List.singleton_append] at h1
end Rp
end Go.Proofs.WK
