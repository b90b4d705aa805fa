/-
  wyref.Id, by the library's strings.Trim, and wyref.Value (P14, P15).
-/
import Derived.Test.YtljjiicjnoljbaaDoorRec
import Derived.Shelf.Strings.SlTrimAscii
import Derived.Test.YtljjiicjnoljbaaDoorShTrim
import Derived.Lib.ConvBytes
import Derived.Lib.AtoiErrMem
namespace Go.Proofs.WK
open Go.RowKit Rp
def idCs : ByteArray := ⟨#[97, 98, 99, 100, 101, 102, 103, 104, 105, 106, 107, 108, 109, 110, 111, 112, 113, 114, 115, 116, 117, 118, 119, 120, 121, 122, 48, 49, 50, 51, 52, 53, 54, 55, 56, 57]⟩
theorem idCs_has (b : UInt8) : idCs.data.toList.contains b = idB b := by
  have h : ∀ n : Fin 256, idCs.data.toList.contains (UInt8.ofNat n.val) = idB (UInt8.ofNat n.val) := by decide +kernel
  have := h ⟨b.toNat, b.toNat_lt⟩
  rwa [UInt8.ofNat_toNat] at this
theorem dropWhile_nil {p : UInt8 → Bool} : ∀ l : List UInt8, l.dropWhile p = [] ↔ l.all p = true
  | [] => by simp
  | b :: l => by
    cases h : p b
    · simp [List.dropWhile, h]
    · simp [List.dropWhile, h, dropWhile_nil l]
theorem mem_dropWhile {p : UInt8 → Bool} {b : UInt8} : ∀ {l : List UInt8}, b ∈ l → p b = false → b ∈ l.dropWhile p
  | c :: l, h, hb => by
    cases hc : p c
    · simpa [List.dropWhile, hc] using h
    · rcases List.mem_cons.1 h with e | h
      · subst e; rw [hb] at hc; cases hc
      · simpa [List.dropWhile, hc] using mem_dropWhile h hb
theorem trim_nil (l : List UInt8) : (Lib.trimS l idCs.data.toList == []) = l.all idB := by
  have hp : (fun b => idCs.data.toList.contains b) = idB := funext idCs_has
  unfold Lib.trimS Lib.trimLeftS Lib.trimRightS
  rw [hp]
  rw [Bool.eq_iff_iff, beq_iff_eq, dropWhile_nil, List.all_reverse, List.all_eq_true, List.all_eq_true]
  constructor
  · intro h b hb
    cases hx : idB b
    · have := h b (mem_dropWhile (List.mem_reverse.2 hb) hx)
      rw [hx] at this; cases this
    · rfl
  · intro h b hb
    exact h b (List.mem_reverse.1 (List.dropWhile_sublist _ |>.subset hb))
theorem trimC (s : ByteArray) (w : World) (hs : s.size ≤ 9223372036854775807) : Calls Tryd.prog 90 #[.string s, .string idCs] w fun e w' => ∃ r : ByteArray, e = .returned (.string r) ∧ r.toList.isEmpty = s.data.toList.all idB ∧ Below w.heap.size w w' := by
  have hcon := Any.strings_Trim_laid Tryd.layTrim (by kernel_rfl) s idCs w hs (by decide) (ascii_of_all (by decide))
  refine (show Calls Tryd.prog 90 _ _ _ from hcon).mono fun e w' h => ⟨_, h.1, ?_, h.2⟩
  rw [toList_data, ← trim_nil]
  show (Lib.trimS s.data.toList idCs.data.toList).isEmpty = _
  cases Lib.trimS s.data.toList idCs.data.toList <;> rfl
set_option maxHeartbeats 800000 in
set_option maxRecDepth 100000 in
theorem refId (s : ByteArray) (w : World) : Calls Tryd.prog 44 #[.string s] w fun e w' => e = .returned (.bool (idOk s)) ∧ Below w.heap.size w w' := by
  cases h : decide ((1 : Int) ≤ (s.size : Int) ∧ (s.size : Int) ≤ 8) with
  | false =>
    have H := Aside.mk (show idOk s = false by
      have := of_decide_eq_false h
      unfold idOk
      by_cases h1 : 1 ≤ s.size
      · rw [decide_eq_false (by omega : ¬ s.size ≤ 8)]; simp
      · rw [decide_eq_false h1]; rfl)
    go_enter Tryd.func44, Tryd.ntmps44
    go_wp2_with (go_at_call 60; refine (within _ _ _ _).mono ?_; rw [h]; rintro e w' ⟨rfl, rfl⟩)
    go_ret
    exact ⟨by rw [H.out]; rfl, Below.refl _ _⟩
  | true =>
    have h2 := of_decide_eq_true h
    have H := Aside.mk (show idOk s = s.data.toList.all idB by unfold idOk; rw [decide_eq_true (by omega : 1 ≤ s.size), decide_eq_true (by omega : s.size ≤ 8)]; rfl)
    have hs : s.size ≤ 9223372036854775807 := by omega
    have HC := Aside.mk (trimC s · hs)
    clear h2
    go_enter Tryd.func44, Tryd.ntmps44
    go_wp2_with (first | (go_at_call 60; refine (within _ _ _ _).mono ?_; rw [h]; rintro e w' ⟨rfl, rfl⟩) | (go_at_call 90; refine (HC.out _).mono ?_; rintro e w' ⟨r, rfl, hr, hb⟩; have HR := Aside.mk hr; have HB := Aside.mk hb; clear hr hb))
    go_ret
    exact ⟨by rw [H.out, ← HR.out]; rfl, HB.out⟩
set_option maxHeartbeats 800000 in
set_option maxRecDepth 100000 in
theorem refValue (s : ByteArray) (hs : s.size ≤ 9223372036854775807) (w : World) : Calls Tryd.prog 45 #[.string s] w fun e w' => e = .returned (.bool (valOk s)) ∧ Below w.heap.size w w' := by
  have hcv := Lib.run_convert_string_bytes (P := Tryd.prog) w 9 115 5 s (u := .string) Tryd.underlying9 Tryd.underlying115 Tryd.underlying5
  have HB : Aside (Below w.heap.size w (Lib.bytesWorld w 5 s)) := ⟨Lib.bytesWorld_below w _ s⟩
  have HC : Aside (∀ k (h : k < s.size), (Lib.bytesWorld w 5 s).cell? ⟨w.heap.size, k, none⟩ = some (.int .u8 s[k].toNat)) := ⟨fun k h => by
    have := Lib.bytesWorld_cell w 5 s k h
    rw [List.getD, List.getElem?_eq_getElem (by simpa using h)] at this
    exact this⟩
  generalize Lib.bytesWorld w 5 s = w5 at hcv HB HC
  generalize grownCap w s.size 0 5 = cp at hcv
  go_enter Tryd.func45, Tryd.ntmps45
  go_wp2_with fail
  clear hcv
  go_loopw [8] (fun i wr => ∃ k : Nat, k ≤ s.size ∧ i = .int .i64 k ∧ Aside ((s.data.toList.take k).all valB = true) ∧ w5 = wr) (fun i _ => s.size - (intOf i).toNat)
  case atStart => exact ⟨0, Nat.zero_le _, rfl, ⟨rfl⟩, rfl⟩
  case round =>
    obtain ⟨k, hk, rfl, HK, rfl⟩ := hrel
    by_cases hlt : k < s.size
    · have hS := Aside.mk (all_step valB hlt)
      have HF := Aside.mk (all_hit (p := valB) hlt)
      have hcell := HC.out k hlt
      have p0 : (0 : Int) ≤ (k : Int) := by omega
      have p1 : (k : Int) < (s.size : Int) := by omega
      have HD := Aside.mk (show valB s[k] = (decide (33 ≤ s[k].toNat) && decide (s[k].toNat ≤ 126) && decide (s[k].toNat ≠ 44) && decide (s[k].toNat ≠ 59) && decide (s[k].toNat ≠ 61)) from rfl)
      rcases val_ways s[k].toNat with ⟨h1, HC⟩ | ⟨h1, HC⟩ | ⟨h1, HC⟩ | ⟨h1, HC⟩ | ⟨h1, HC⟩ | ⟨h1, HC⟩
      case inr.inr.inr.inr.inr =>
        have HB1 := Aside.mk (show (s.data.toList.take (k + 1)).all valB = true by have := HC.out; rw [hS.out, HK.out, HD.out]; simp; omega)
        go_wp2_with fail
        refine ⟨⟨k + 1, by omega, by go_num, HB1, trivial⟩, by simp [intOf]; omega⟩
      all_goals
        have HB1 := Aside.mk (show valOk s = false by unfold valOk; rw [HF.out (by have := HC.out; rw [HD.out]; simp; omega), Bool.and_false])
        go_wp2_with fail
        go_ret
        exact ⟨by rw [HB1.out]; rfl, HB.out⟩
    · obtain rfl : k = s.size := by omega
      have HB1 := Aside.mk (show s.data.toList.all valB = true by have := HK.out; rwa [List.take_of_length_le (by simp)] at this)
      cases h12 : decide ((s.size : Int) < 13)
      all_goals
        have HE := Aside.mk (show valOk s = decide ((s.size : Int) < 13) by unfold valOk; rw [HB1.out, Bool.and_true, decide_eq_decide]; omega)
        rw [h12] at HE
        go_wp2_with fail
        go_ret
        exact ⟨by rw [HE.out]; rfl, HB.out⟩
end Go.Proofs.WK
