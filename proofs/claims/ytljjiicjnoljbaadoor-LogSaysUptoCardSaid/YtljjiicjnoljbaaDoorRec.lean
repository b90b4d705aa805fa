/-
  Package record (P14 to P16): Id, Value, Check.
-/
import Derived.Test.YtljjiicjnoljbaaDoorDat
import Derived.Test.YtljjiicjnoljbaaDoorWk0
namespace Go.Proofs.WK
open Go.RowKit Rp
/-- Five ways of a byte, as the walk asks them. -/
theorem byte_ways (c : Nat) : ((decide (97 ≤ (c : Int)) = false ∧ decide (48 ≤ (c : Int)) = false) ∧ Aside (c < 48)) ∨ ((decide (97 ≤ (c : Int)) = false ∧ decide (48 ≤ (c : Int)) = true ∧ decide ((c : Int) ≤ 57) = true) ∧ Aside (48 ≤ c ∧ c ≤ 57)) ∨
    ((decide (97 ≤ (c : Int)) = false ∧ decide (48 ≤ (c : Int)) = true ∧ decide ((c : Int) ≤ 57) = false) ∧ Aside (57 < c ∧ c < 97)) ∨ ((decide (97 ≤ (c : Int)) = true ∧ decide ((c : Int) ≤ 122) = true) ∧ Aside (97 ≤ c ∧ c ≤ 122)) ∨
    ((decide (97 ≤ (c : Int)) = true ∧ decide ((c : Int) ≤ 122) = false ∧ decide (48 ≤ (c : Int)) = true ∧ decide ((c : Int) ≤ 57) = false) ∧ Aside (122 < c)) := by
  rcases (by omega : (c < 48) ∨ (48 ≤ c ∧ c ≤ 57) ∨ (57 < c ∧ c < 97) ∨ (97 ≤ c ∧ c ≤ 122) ∨ 122 < c) with h | h | h | h | h
  · exact .inl ⟨by simp; omega, ⟨h⟩⟩
  · exact .inr (.inl ⟨by simp; omega, ⟨h⟩⟩)
  · exact .inr (.inr (.inl ⟨by simp; omega, ⟨h⟩⟩))
  · exact .inr (.inr (.inr (.inl ⟨by simp; omega, ⟨h⟩⟩)))
  · exact .inr (.inr (.inr (.inr ⟨by simp; omega, ⟨h⟩⟩)))
theorem str_nil {s : ByteArray} (h : s.size = 0) : s = ByteArray.empty := by
  cases s with | mk d => cases d with | mk l => cases l with | nil => rfl | cons _ _ => simp [ByteArray.size] at h
theorem str_ne {s : ByteArray} (h : s.size ≠ 0) : (s.toList == []) = false ∧ s.toList.isEmpty = false ∧ ¬ s.toList = [] := by
  have : ¬ s.toList = [] := by
    rw [toList_data]
    intro e
    have e2 := congrArg List.length e
    rw [List.length_nil, Array.length_toList] at e2
    exact h e2
  refine ⟨by simp [this], ?_, this⟩
  cases hs : s.toList with
  | nil => exact absurd hs this
  | cons _ _ => rfl
set_option maxHeartbeats 800000 in
set_option maxRecDepth 100000 in
theorem recId (s : ByteArray) (w : World) : Calls Tryd.prog 51 #[.string s] w fun e w' => e = .returned (.bool (idOk s)) ∧ w = w' := by
  rcases (by omega : s.size = 0 ∨ (s.size ≠ 0 ∧ 8 < s.size) ∨ (1 ≤ s.size ∧ s.size ≤ 8)) with h | ⟨h, h8⟩ | ⟨h, h8⟩
  · obtain rfl := str_nil h
    clear h
    go_enter Tryd.func51, Tryd.ntmps51
    go_wp2_with fail
    go_ret
    exact ⟨rfl, rfl⟩
  · obtain ⟨n1, n2, n3⟩ := str_ne h
    have H := Aside.mk (show idOk s = false by unfold idOk; rw [decide_eq_false (by omega : ¬ s.size ≤ 8)]; simp)
    have g8 : decide ((8 : Int) < (s.size : Int)) = true := by simp; omega
    go_enter Tryd.func51, Tryd.ntmps51
    go_wp2_with fail
    go_ret
    exact ⟨by rw [H.out]; rfl, rfl⟩
  · obtain ⟨n1, n2, n3⟩ := str_ne (by omega : s.size ≠ 0)
    have H := Aside.mk (show idOk s = s.data.toList.all idB by unfold idOk; rw [decide_eq_true h, decide_eq_true h8]; rfl)
    have g8 : decide ((8 : Int) < (s.size : Int)) = false := by simp; omega
    go_enter Tryd.func51, Tryd.ntmps51
    go_wp2_with fail
    go_loopw [14] (fun i wr => ∃ k : Nat, k ≤ s.size ∧ i = .int .i64 k ∧ Aside ((s.data.toList.take k).all idB = true) ∧ w = wr) (fun i _ => s.size - (intOf i).toNat)
    case atStart => exact ⟨0, Nat.zero_le _, rfl, ⟨rfl⟩, rfl⟩
    case round =>
      obtain ⟨k, hk, rfl, HK, rfl⟩ := hrel
      by_cases hlt : k < s.size
      · have hS := Aside.mk (all_step idB hlt)
        have HF := Aside.mk (all_hit (p := idB) hlt)
        have HD := Aside.mk (show idB s[k] = ((decide (97 ≤ s[k].toNat) && decide (s[k].toNat ≤ 122)) || (decide (48 ≤ s[k].toNat) && decide (s[k].toNat ≤ 57))) from rfl)
        rcases byte_ways s[k].toNat with ⟨h1, HC⟩ | ⟨h1, HC⟩ | ⟨h1, HC⟩ | ⟨h1, HC⟩ | ⟨h1, HC⟩
        case inl | inr.inr.inl | inr.inr.inr.inr =>
          have HB := Aside.mk (HF.out (by have := HC.out; rw [HD.out]; simp; omega))
          go_wp2_with fail
          go_ret
          exact ⟨by rw [H.out, HB.out]; rfl, rfl⟩
        all_goals
          have HB := Aside.mk (show (s.data.toList.take (k + 1)).all idB = true by have := HC.out; rw [hS.out, HK.out, HD.out]; simp; omega)
          go_wp2_with fail
          refine ⟨⟨k + 1, by omega, by go_num, HB, trivial⟩, by simp [intOf]; omega⟩
      · obtain rfl : k = s.size := by omega
        have HB := Aside.mk (show s.data.toList.all idB = true by have := HK.out; rwa [List.take_of_length_le (by simp)] at this)
        go_wp2_with fail
        go_ret
        exact ⟨by rw [H.out, HB.out]; rfl, rfl⟩
/-- Six ways of a byte of a value, as the walk asks them. -/
theorem val_ways (c : Nat) : (decide ((c : Int) < 33) = true ∧ Aside (c < 33)) ∨ ((decide ((c : Int) < 33) = false ∧ decide (126 < (c : Int)) = true) ∧ Aside (126 < c)) ∨
    ((decide ((c : Int) < 33) = false ∧ decide (126 < (c : Int)) = false ∧ ((c : Int) == 44) = true) ∧ Aside (c = 44)) ∨ ((decide ((c : Int) < 33) = false ∧ decide (126 < (c : Int)) = false ∧ ((c : Int) == 44) = false ∧ ((c : Int) == 59) = true) ∧ Aside (c = 59)) ∨
    ((decide ((c : Int) < 33) = false ∧ decide (126 < (c : Int)) = false ∧ ((c : Int) == 44) = false ∧ ((c : Int) == 59) = false ∧ ((c : Int) == 61) = true) ∧ Aside (c = 61)) ∨
    ((decide ((c : Int) < 33) = false ∧ decide (126 < (c : Int)) = false ∧ ((c : Int) == 44) = false ∧ ((c : Int) == 59) = false ∧ ((c : Int) == 61) = false) ∧ Aside (33 ≤ c ∧ c ≤ 126 ∧ c ≠ 44 ∧ c ≠ 59 ∧ c ≠ 61)) := by
  rcases (by omega : (c < 33) ∨ (126 < c) ∨ c = 44 ∨ c = 59 ∨ c = 61 ∨ (33 ≤ c ∧ c ≤ 126 ∧ c ≠ 44 ∧ c ≠ 59 ∧ c ≠ 61)) with h | h | h | h | h | h
  · exact .inl ⟨by simp; omega, ⟨h⟩⟩
  · exact .inr (.inl ⟨by simp; omega, ⟨h⟩⟩)
  · exact .inr (.inr (.inl ⟨by simp; omega, ⟨h⟩⟩))
  · exact .inr (.inr (.inr (.inl ⟨by simp; omega, ⟨h⟩⟩)))
  · exact .inr (.inr (.inr (.inr (.inl ⟨by simp; omega, ⟨h⟩⟩))))
  · exact .inr (.inr (.inr (.inr (.inr ⟨by simp; omega, ⟨h⟩⟩))))
set_option maxHeartbeats 800000 in
set_option maxRecDepth 100000 in
theorem recValue (s : ByteArray) (w : World) : Calls Tryd.prog 52 #[.string s] w fun e w' => e = .returned (.bool (valOk s)) ∧ w = w' := by
  by_cases h : 12 < s.size
  · have H := Aside.mk (show valOk s = false by unfold valOk; rw [decide_eq_false (by omega : ¬ s.size ≤ 12)]; simp)
    have g8 : decide ((12 : Int) < (s.size : Int)) = true := by simp; omega
    go_enter Tryd.func52, Tryd.ntmps52
    go_wp2_with fail
    go_ret
    exact ⟨by rw [H.out]; rfl, rfl⟩
  · have H := Aside.mk (show valOk s = s.data.toList.all valB by unfold valOk; rw [decide_eq_true (by omega : s.size ≤ 12)]; rfl)
    have g8 : decide ((12 : Int) < (s.size : Int)) = false := by simp; omega
    go_enter Tryd.func52, Tryd.ntmps52
    go_wp2_with fail
    go_loopw [10] (fun i wr => ∃ k : Nat, k ≤ s.size ∧ i = .int .i64 k ∧ Aside ((s.data.toList.take k).all valB = true) ∧ w = wr) (fun i _ => s.size - (intOf i).toNat)
    case atStart => exact ⟨0, Nat.zero_le _, rfl, ⟨rfl⟩, rfl⟩
    case round =>
      obtain ⟨k, hk, rfl, HK, rfl⟩ := hrel
      by_cases hlt : k < s.size
      · have hS := Aside.mk (all_step valB hlt)
        have HF := Aside.mk (all_hit (p := valB) hlt)
        have HD := Aside.mk (show valB s[k] = (decide (33 ≤ s[k].toNat) && decide (s[k].toNat ≤ 126) && decide (s[k].toNat ≠ 44) && decide (s[k].toNat ≠ 59) && decide (s[k].toNat ≠ 61)) from rfl)
        rcases val_ways s[k].toNat with ⟨h1, HC⟩ | ⟨h1, HC⟩ | ⟨h1, HC⟩ | ⟨h1, HC⟩ | ⟨h1, HC⟩ | ⟨h1, HC⟩
        case inr.inr.inr.inr.inr =>
          have HB := Aside.mk (show (s.data.toList.take (k + 1)).all valB = true by have := HC.out; rw [hS.out, HK.out, HD.out]; simp; omega)
          go_wp2_with fail
          refine ⟨⟨k + 1, by omega, by go_num, HB, trivial⟩, by simp [intOf]; omega⟩
        all_goals
          have HB := Aside.mk (HF.out (by have := HC.out; rw [HD.out]; simp; omega))
          go_wp2_with fail
          go_ret
          exact ⟨by rw [H.out, HB.out]; rfl, rfl⟩
      · obtain rfl : k = s.size := by omega
        have HB := Aside.mk (show s.data.toList.all valB = true by have := HK.out; rwa [List.take_of_length_le (by simp)] at this)
        go_wp2_with fail
        go_ret
        exact ⟨by rw [H.out, HB.out]; rfl, rfl⟩
end Go.Proofs.WK
