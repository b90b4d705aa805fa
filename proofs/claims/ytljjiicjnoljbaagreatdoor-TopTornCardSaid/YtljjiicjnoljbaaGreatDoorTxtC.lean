/-
  strings.Split, Cut, Count, IndexByte at a separator of one byte; record.split.
-/
import Derived.Test.YtljjiicjnoljbaaGreatDoorJoin
import Derived.Test.YtljjiicjnoljbaaGreatDoorShSplit
import Derived.Test.YtljjiicjnoljbaaGreatDoorShCut
import Derived.Test.YtljjiicjnoljbaaGreatDoorShCnt
import Derived.Test.YtljjiicjnoljbaaGreatDoorShIxB
import Derived.Lib.CutLaws
import Derived.Lib.CountLaws
import Derived.Lib.IndexLaws
namespace Go.Proofs.WK
open Go.RowKit Rp
/-- The library's own variable holds some number. -/
def MaxCell (w : World) : Prop := ∃ m, w.cell? ⟨0, 0, none⟩ = some (.int .i64 m)
theorem MaxCell.below {w w' : World} (h : MaxCell w) (hb : Below w.heap.size w w') : MaxCell w' := by
  obtain ⟨m, h⟩ := h
  exact ⟨m, cell_below hb h⟩
theorem one_data (c : UInt8) : (one c).data.toList = [c] := rfl
theorem index_byte (s : ByteArray) (c : UInt8) : Lib.indexByte s.data.toList c = Lib.indexB s (one c) := (Lib.index_one _ _).symm
theorem count_byte (c : UInt8) : ∀ (n : Nat) (l : List UInt8), l.length ≤ n → Lib.countByte l c = Lib.count l [c] := by
  intro n
  induction n with
  | zero =>
    intro l h
    obtain rfl := List.length_eq_zero_iff.1 (Nat.le_zero.1 h)
    rw [Lib.count_miss (by rw [Lib.index_one]; rfl)]
    rfl
  | succ n ih =>
    intro l h
    have hge := Lib.indexByte_ge l c
    by_cases hm : Lib.indexByte l c = -1
    · rw [Lib.count_miss (by rw [Lib.index_one]; exact hm)]
      unfold Lib.countByte
      rw [List.count_eq_zero]
      intro hc
      obtain ⟨k, hk⟩ := List.mem_iff_getElem?.1 hc
      exact Lib.indexByte_none hm k hk
    · obtain ⟨i, hi⟩ : ∃ i : Nat, Lib.indexByte l c = i := ⟨(Lib.indexByte l c).toNat, by omega⟩
      obtain ⟨h1, h2⟩ := Lib.indexByte_some hi
      rw [Lib.count_hit (i := i) (by simp) (by rw [Lib.index_one]; exact hi)]
      have hil : i < l.length := (List.getElem?_eq_some_iff.1 h1).1
      show Lib.countByte l c = 1 + Lib.count (l.drop (i + 1)) [c]
      rw [← ih (l.drop (i + 1)) (by rw [List.length_drop]; omega)]
      unfold Lib.countByte
      have e : l = l.take i ++ c :: l.drop (i + 1) := by
        have := (List.getElem?_eq_some_iff.1 h1).2
        rw [← this, List.getElem_cons_drop, List.take_append_drop]
      have e0 : (l.take i).count c = 0 := by
        rw [List.count_eq_zero]
        intro hc
        obtain ⟨k, hk⟩ := List.mem_iff_getElem?.1 hc
        rw [List.getElem?_take] at hk
        split at hk
        · exact h2 k (by assumption) hk
        · cases hk
      conv => lhs; rw [e]
      rw [List.count_append, e0, List.count_cons_self]
      omega
theorem cntC (s : ByteArray) (c : UInt8) (w : World) : Calls Tryz.prog 18 #[.string s, .string ⟨#[c]⟩] w fun e w' => e = .returned (.int .i64 (Lib.countB s (one c) : Nat)) ∧ w = w' :=
  (show Calls Tryz.prog 18 #[.string s, .string ⟨#[c]⟩] w _ from Any.strings_Count_one Tryz.layCnt s c w).mono fun e w' ⟨h1, h2⟩ => ⟨by rw [h1, count_byte c _ _ (Nat.le_refl _)]; rfl, h2.symm⟩
theorem ixbC (s : ByteArray) (c : UInt8) (w : World) : Calls Tryz.prog 108 #[.string s, .int .u8 (c.toNat : Nat)] w fun e w' => e = .returned (.int .i64 (Lib.indexB s (one c))) ∧ w = w' :=
  (show Calls Tryz.prog 108 #[.string s, .int .u8 (c.toNat : Nat)] w _ from Any.strings_IndexByte Tryz.layIxB s c.toNat w).mono fun e w' ⟨h1, h2⟩ => ⟨by rw [h1, Lib.byte_back', index_byte], h2.symm⟩
/-- What Cut answers. -/
def cut1 (c : UInt8) (s : ByteArray) : ByteArray := if Lib.indexB s (one c) = -1 then s else s.extract 0 (Lib.indexB s (one c)).toNat
def cut2 (c : UInt8) (s : ByteArray) : ByteArray := if Lib.indexB s (one c) = -1 then ⟨#[]⟩ else s.extract ((Lib.indexB s (one c)).toNat + 1) s.size
def cut3 (c : UInt8) (s : ByteArray) : Bool := !decide (Lib.indexB s (one c) = -1)
theorem cutC (s : ByteArray) (c : UInt8) (w : World) (hs : s.size < 4294967281) (hm : MaxCell w) :
    Calls Tryz.prog 47 #[.string s, .string ⟨#[c]⟩] w fun e w' => e = .returned (.tuple #[.string (cut1 c s), .string (cut2 c s), .bool (cut3 c s)]) ∧ Drawn w w' := by
  obtain ⟨m, hm⟩ := hm
  refine (show Calls Tryz.prog 47 #[.string s, .string ⟨#[c]⟩] w _ from Any.strings_Cut Tryz.layCut s ⟨#[c]⟩ m w hs hm).mono fun e w' ⟨h1, h2⟩ => ⟨?_, h2⟩
  rw [h1]
  rcases Lib.indexB_cases s (one c) with h | ⟨i, h, _⟩
  · obtain ⟨a1, a2, a3⟩ := Lib.cutB_miss s (one c) h
    rw [show (⟨#[c]⟩ : ByteArray) = one c from rfl, a1, a2, a3, cut1, cut2, cut3, if_pos h, if_pos h, decide_eq_true h]
    rfl
  · obtain ⟨a1, a2, a3⟩ := Lib.cutB_hit s (one c) i h
    rw [show (⟨#[c]⟩ : ByteArray) = one c from rfl, a1, a2, a3, cut1, cut2, cut3, if_neg (by omega), if_neg (by omega), decide_eq_false (by omega), h]
    rfl
/-- Split. -/
theorem splitC (s : ByteArray) (c : UInt8) (w : World) (hs : s.size < 4294967281) (hm : MaxCell w) :
    Calls Tryz.prog 71 #[.string s, .string ⟨#[c]⟩] w fun e w' => e = .returned (.slice (some ⟨w.heap.size, 0, none⟩) (parts c s).length (parts c s).length) ∧ str.Row w' (fun k => w.heap.size ≤ k) (some ⟨w.heap.size, 0, none⟩) (parts c s) ∧ Below w.heap.size w w' := by
  obtain ⟨m, hm⟩ := hm
  have hn : (parts c s).length ≤ 9223372036854775807 := by
    rw [parts_len]
    have := Lib.countB_le (one c) (Nat.le_refl _) s.size s (Nat.le_refl _)
    omega
  refine (show Calls Tryz.prog 71 #[.string s, .string ⟨#[c]⟩] w _ from Any.strings_Split Tryz.laySplit infoStJ s ⟨#[c]⟩ m w hs hm (Nat.le_refl _)).mono fun e w' ⟨h1, h2⟩ => ⟨?_, ?_, ?_⟩
  · rw [h1, parts_len]
    rfl
  · subst h2
    have l1 := (Own.lit str (Tryz.laySplit_ren.t 9) w 0 (fun _ => False) (Nat.zero_le _) (reps_str w _ (parts c s)) hn).row.2.2
    exact l1.mono fun k hk _ => hk.elim False.elim fun e => by injection e with e; exact Nat.le_of_eq e
  · subst h2
    exact (Below.refl _ _).alloc (Nat.le_refl _) _
theorem size_ne {s : ByteArray} (h : s.size ≠ 0) : s.toList.isEmpty = false := by
  rw [toList_data, List.isEmpty_eq_false_iff]
  intro e
  have := congrArg List.length e
  rw [Array.length_toList] at this
  exact h this
set_option maxRecDepth 100000 in
theorem recSplit (s : ByteArray) (w : World) (hs : s.size < 4294967281) (hm : MaxCell w) :
    Calls Tryz.prog 253 #[.string s] w fun e w' => ∃ A c, e = .returned (.slice A (items s).length c) ∧ (items s).length ≤ c ∧ str.Row w' (fun k => w.heap.size ≤ k) A (items s) ∧ Below w.heap.size w w' := by
  have HM := Aside.mk hm
  clear hm
  have HS := Aside.mk hs
  clear hs
  by_cases h : s = ⟨#[]⟩
  · have g : s.toList.isEmpty = true := by rw [h, toList_data]; rfl
    have e1 : items s = [] := by rw [h]; rfl
    rw [e1]
    go_enter Tryz.func253, Tryz.ntmps253
    go_wp2_with fail
    go_ret
    exact ⟨none, 0, rfl, Nat.le_refl _, Row.nil, Below.refl _ _⟩
  · have h0 : s.size ≠ 0 := fun e => h (by
      cases s with
      | mk d =>
        have : d.size = 0 := e
        rw [Array.eq_empty_of_size_eq_zero this])
    have g : s.toList.isEmpty = false := size_ne h0
    have e1 : items s = parts 44 s := if_neg h0
    rw [e1]
    clear h h0 e1
    go_enter Tryz.func253, Tryz.ntmps253
    go_wp2_with fail
    refine (splitC s 44 _ HS.out HM.out).mono ?_
    rintro e w1 ⟨rfl, hr, hb⟩
    have H := Aside.mk (And.intro hr hb)
    clear hr hb
    go_wp2_with fail
    go_ret
    exact ⟨_, _, rfl, Nat.le_refl _, H.out.1, H.out.2⟩
end Go.Proofs.WK
