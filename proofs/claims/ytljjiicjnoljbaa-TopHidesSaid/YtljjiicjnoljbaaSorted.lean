/-
  slices.Sort of a row of texts that is the call's own.
-/
import Derived.Test.YtljjiicjnoljbaaPl0
import Derived.Test.YtljjiicjnoljbaaDat
import Derived.Test.YtljjiicjnoljbaaShSort
import Derived.Lib.OwnBridge
import Derived.Sort.OwnSorted
namespace Go.Proofs.WK
open Go.RowKit Go.Sort Rp
theorem inner_str {w : World} {ok : Nat → Prop} {xs : List ByteArray} {inner : List Value} (h : Reps (str.K w ok) 1 xs inner) : inner = (xs.map (·.data.toList)).map encStr := by
  obtain ⟨hl, hr⟩ := h
  refine List.ext_getElem? fun j => ?_
  by_cases hj : j < xs.length
  · have h1 := hr j xs[j] (List.getElem?_eq_getElem hj)
    rw [str_K, Nat.mul_one] at h1
    have h2 := congrArg (·[0]?) h1
    simp at h2
    rw [h2]
    simp [hj]
  · rw [List.getElem?_eq_none (by simp at hl; omega), List.getElem?_eq_none (by simp; omega)]
theorem own_str {w : World} {base : Nat} {ok : Nat → Prop} {v : Value} {xs : List ByteArray} {t : TypeId} (h : w.ownsRow base t 1 v xs.length (xs.map Value.string)) : str.Own t w base ok v xs := ⟨_, h, reps_str _ _ _⟩
theorem map_sortS (xs : List ByteArray) : ((xs.map (·.data.toList)).mergeSort fun x y => decide (x ≤ y)).map encStr = (sortS xs).map Value.string := by
  unfold sortS
  simp [List.map_map, encStr]
/-- What a sort leaves. -/
theorem own_sorted {w : World} {base g c n : Nat} {ok : Nat → Prop} {t : TypeId} {os : Array Obj} {xs : List ByteArray} (h : str.Own t w base ok (.slice (some ⟨g, 0, none⟩) xs.length c) xs) :
    str.Own t (grow (putRow encStr (Sort.ahead w n) g 0 ((xs.map (·.data.toList)).mergeSort fun x y => decide (x ≤ y)).toArray) os) base ok (.slice (some ⟨g, 0, none⟩) xs.length c) (sortS xs) := by
  obtain ⟨inner, ho, hr⟩ := h
  have e := inner_str hr
  subst e
  rcases ho.2 with ⟨h0, _⟩ | ⟨g', c', cur, hv, hbase, hb, h1, h2, h3, h4⟩
  · cases h0
  · cases hv
    have hs := ownsRow_sorted (w := w) (base := base) (g := g) (cap := c) (n := n) (e := t) (os := os) (cur := cur) (ss := xs.map (·.data.toList)) (ts := (xs.map (·.data.toList)).mergeSort fun x y => decide (x ≤ y)) (by rw [List.length_mergeSort]) hbase hb (by simpa using h1) h2 h3
    rw [map_sortS, List.length_map] at hs
    refine own_str ?_
    rw [length_sortS]
    exact hs
theorem holds_own {w : World} {base : Nat} {ok : Nat → Prop} {t : TypeId} {v : Value} {xs : List ByteArray} (h : str.Own t w base ok v xs) (hv : v ≠ .slice none 0 0) : ∃ g c, v = .slice (some ⟨g, 0, none⟩) xs.length c ∧ g < w.heap.size ∧ Holds encStr w g 0 (xs.map (·.data.toList)).toArray := by
  obtain ⟨inner, ho, hr⟩ := h
  have e := inner_str hr
  subst e
  obtain ⟨g, c, rfl, _, h1, _, _, _, h2⟩ := Lib.holds_of_ownsRow ho hv
  exact ⟨g, c, rfl, h1, h2⟩
theorem own_none {w : World} {base : Nat} {ok : Nat → Prop} {t : TypeId} {xs : List ByteArray} (h : str.Own t w base ok (.slice none 0 0) xs) : xs = [] := by
  obtain ⟨A, c, e, hc, _⟩ := h.sl
  injection e with _ e _
  exact List.length_eq_zero_iff.1 e.symm
set_option maxRecDepth 100000 in
theorem sortStr (t : TypeId) (v : Value) (xs : List ByteArray) (base : Nat) (ok : Nat → Prop) (w : World) (h : str.Own t w base ok v xs) (hl : xs.length < 4611686018427387904) :
    Calls Try.prog 117 #[v] w fun e w' => e = .returned (.tuple #[]) ∧ str.Own t w' base ok v (sortS xs) ∧ w.grownBy w' v.ownBlock := by
  by_cases hv : v = .slice none 0 0
  · subst hv
    obtain rfl := own_none h
    refine (Any.slices_Sort_string_none Try.laySortS none 0 w).mono ?_
    rintro e w' ⟨rfl, rfl⟩
    exact ⟨rfl, by rw [show sortS [] = [] by simp [sortS]]; exact h, World.grownBy.refl _ _⟩
  · obtain ⟨g, c, rfl, hg, hH⟩ := holds_own h hv
    have hc := Any.slices_Sort_string Try.laySortS g 0 c (xs.map (·.data.toList)) w hH hg (by simpa using hl)
    rw [List.length_map] at hc
    refine hc.mono ?_
    rintro e w' ⟨rfl, n, os, rfl⟩
    exact ⟨rfl, own_sorted h, grownBy_sorted _⟩
end Go.Proofs.WK
