/-
  slices.Compact of a row of texts that is the call's own.
-/
import Derived.Test.YtljjiicjnoljbaaDoorSorted
import Derived.Test.YtljjiicjnoljbaaDoorSrtC
import Derived.Test.YtljjiicjnoljbaaDoorShComp
namespace Go.Proofs.WK
open Go.RowKit Go.Sort Rp
theorem grown_putRow {w : World} {g n : Nat} (d : Array (List UInt8)) : w.grownBy (putRow encStr (Sort.ahead w n) g 0 d) (some g) := by
  refine ⟨rfl, rfl, rfl, by simp [putRow, mapBlock, Sort.ahead], fun k hk hne => ?_⟩
  have : g ≠ k := fun e => hne (by rw [e])
  simp [putRow, mapBlock, Sort.ahead, Array.getElem?_modify, this]
theorem map_compS (xs : List ByteArray) : (Lib.compact (xs.map (·.data.toList))).map encStr = (compS xs).map Value.string := by
  unfold compS
  simp [List.map_map, encStr]
theorem compS_len (xs : List ByteArray) : (compS xs).length = (Lib.compact (xs.map (·.data.toList))).length := by unfold compS; simp
set_option maxRecDepth 100000 in
theorem compStr (t : TypeId) (v : Value) (xs : List ByteArray) (base : Nat) (ok : Nat → Prop) (w : World) (h : str.Own t w base ok v xs) (hl : xs.length ≤ 9223372036854775807) :
    Calls Tryd.prog 89 #[v] w fun e w' => ∃ v', e = .returned v' ∧ str.Own t w' base ok v' (compS xs) ∧ w.grownBy w' v.ownBlock ∧ v'.ownBlock = v.ownBlock := by
  by_cases hv : v = .slice none 0 0
  · subst hv
    obtain rfl := own_none h
    refine (Any.slices_Compact_string_empty Tryd.layComp none 0 w).mono ?_
    rintro e w' ⟨rfl, rfl⟩
    exact ⟨_, rfl, by rw [show compS [] = [] by simp [compS, Lib.compact, Lib.compactUpTo]]; exact h, World.grownBy.refl _ _, rfl⟩
  · obtain ⟨inner, ho, hr⟩ := id h
    have e := inner_str hr
    subst e
    obtain ⟨g, c, rfl, _, hg, hnc, _, _, hH⟩ := Lib.holds_of_ownsRow ho hv
    have hc := Any.slices_Compact_string Tryd.layComp g 0 c (xs.map (·.data.toList)) w hH (by simpa using hl) (by simpa using hnc)
    rw [List.length_map] at hc
    refine hc.mono ?_
    rintro e w' ⟨rfl, q, rfl⟩
    have hle : (Lib.compact (xs.map (·.data.toList))).length ≤ xs.length := by have := Lib.compact_length_le (xs.map (·.data.toList)); simpa using this
    have hrow := Lib.ownsRow_putRow (q := q) (k := (Lib.compact (xs.map (·.data.toList))).length) (ys := Lib.compact (xs.map (·.data.toList)) ++ List.replicate (xs.length - (Lib.compact (xs.map (·.data.toList))).length) []) ho (by simp; omega) hle
    rw [List.take_left, map_compS] at hrow
    refine ⟨_, rfl, own_str ?_, grown_putRow _, rfl⟩
    rw [compS_len]
    exact hrow
end Go.Proofs.WK
