/-
  Package record (P14 to P16): Id, Value, Check.
  record.Check (P16).
  slices.Clone at this program's element types; record.Copied.
  record.Copied: the same record, in memory of the call's own.
-/
import Derived.Deep.RegionWith
import Derived.Test.YtljjiicjnoljbaaGreatDoorDat
import Derived.Test.YtljjiicjnoljbaaGreatDoorWk0
namespace Go.Proofs.WK
open Go.RowKit Rp
/-- Five ways of a byte, as the walk asks them. -/
theorem byte_ways (c : Nat) : ((decide (97 ≤ (c : Int)) = false ∧ decide (48 ≤ (c : Int)) = false) ∧ Aside (c < 48)) ∨ ((decide (97 ≤ (c : Int)) = false ∧ decide (48 ≤ (c : Int)) = true ∧ decide ((c : Int) ≤ 57) = true) ∧ Aside (48 ≤ c ∧ c ≤ 57)) ∨
    ((decide (97 ≤ (c : Int)) = false ∧ decide (48 ≤ (c : Int)) = true ∧ decide ((c : Int) ≤ 57) = false) ∧ Aside (57 < c ∧ c < 97)) ∨ ((decide (97 ≤ (c : Int)) = true ∧ decide ((c : Int) ≤ 122) = true) ∧ Aside (97 ≤ c ∧ c ≤ 122)) ∨
    ((decide (97 ≤ (c : Int)) = true ∧ decide ((c : Int) ≤ 122) = false ∧ decide (48 ≤ (c : Int)) = true ∧ decide ((c : Int) ≤ 57) = false) ∧ Aside (122 < c)) := by
  rcases (by omega : (c < 48) ∨ (48 ≤ c ∧ c ≤ 57) ∨ (57 < c ∧ c < 97) ∨ (97 ≤ c ∧ c ≤ 122) ∨ 122 < c) with h | h | h | h | h
  · exact .inl ⟨by simp; omega, ⟨h⟩⟩
  · exact .inr (.inl ⟨by simp; omega, ⟨h⟩⟩)
  · exact .inr (.inr (.inl ⟨by simp; omega, ⟨h⟩⟩))
  · exact .inr (.inr (.inr (.inl ⟨by simp; omega, ⟨h⟩⟩)))
  · exact .inr (.inr (.inr (.inr ⟨by simp; omega, ⟨h⟩⟩)))
theorem str_nil {s : ByteArray} (h : s.size = 0) : s = ByteArray.empty := by
  cases s with | mk d => cases d with | mk l => cases l with | nil => rfl | cons _ _ => simp [ByteArray.size] at h
theorem str_ne {s : ByteArray} (h : s.size ≠ 0) : (s.toList == []) = false ∧ s.toList.isEmpty = false ∧ ¬ s.toList = [] := by
  have : ¬ s.toList = [] := by
    rw [toList_data]
    intro e
    have e2 := congrArg List.length e
    rw [List.length_nil, Array.length_toList] at e2
    exact h e2
  refine ⟨by simp [this], ?_, this⟩
  cases hs : s.toList with
  | nil => exact absurd hs this
  | cons _ _ => rfl
set_option maxHeartbeats 800000 in
set_option maxRecDepth 100000 in
theorem recId (s : ByteArray) (w : World) : Calls Tryz.prog 85 #[.string s] w fun e w' => e = .returned (.bool (idOk s)) ∧ w = w' := by
  rcases (by omega : s.size = 0 ∨ (s.size ≠ 0 ∧ 8 < s.size) ∨ (1 ≤ s.size ∧ s.size ≤ 8)) with h | ⟨h, h8⟩ | ⟨h, h8⟩
  · obtain rfl := str_nil h
    clear h
    go_enter Tryz.func85, Tryz.ntmps85
    go_wp2_with fail
    go_ret
    exact ⟨rfl, rfl⟩
  · obtain ⟨n1, n2, n3⟩ := str_ne h
    have H := Aside.mk (show idOk s = false by unfold idOk; rw [decide_eq_false (by omega : ¬ s.size ≤ 8)]; simp)
    have g8 : decide ((8 : Int) < (s.size : Int)) = true := by simp; omega
    go_enter Tryz.func85, Tryz.ntmps85
    go_wp2_with fail
    go_ret
    exact ⟨by rw [H.out]; rfl, rfl⟩
  · obtain ⟨n1, n2, n3⟩ := str_ne (by omega : s.size ≠ 0)
    have H := Aside.mk (show idOk s = s.data.toList.all idB by unfold idOk; rw [decide_eq_true h, decide_eq_true h8]; rfl)
    have g8 : decide ((8 : Int) < (s.size : Int)) = false := by simp; omega
    go_enter Tryz.func85, Tryz.ntmps85
    go_wp2_with fail
    go_loopw [14] (fun i wr => ∃ k : Nat, k ≤ s.size ∧ i = .int .i64 k ∧ Aside ((s.data.toList.take k).all idB = true) ∧ w = wr) (fun i _ => s.size - (intOf i).toNat)
    case atStart => exact ⟨0, Nat.zero_le _, rfl, ⟨rfl⟩, rfl⟩
    case round =>
      obtain ⟨k, hk, rfl, HK, rfl⟩ := hrel
      by_cases hlt : k < s.size
      · have hS := Aside.mk (all_step idB hlt)
        have HF := Aside.mk (all_hit (p := idB) hlt)
        have HD := Aside.mk (show idB s[k] = ((decide (97 ≤ s[k].toNat) && decide (s[k].toNat ≤ 122)) || (decide (48 ≤ s[k].toNat) && decide (s[k].toNat ≤ 57))) from rfl)
        rcases byte_ways s[k].toNat with ⟨h1, HC⟩ | ⟨h1, HC⟩ | ⟨h1, HC⟩ | ⟨h1, HC⟩ | ⟨h1, HC⟩
        case inl | inr.inr.inl | inr.inr.inr.inr =>
          have HB := Aside.mk (HF.out (by have := HC.out; rw [HD.out]; simp; omega))
          go_wp2_with fail
          go_ret
          exact ⟨by rw [H.out, HB.out]; rfl, rfl⟩
        all_goals
          have HB := Aside.mk (show (s.data.toList.take (k + 1)).all idB = true by have := HC.out; rw [hS.out, HK.out, HD.out]; simp; omega)
          go_wp2_with fail
          refine ⟨⟨k + 1, by omega, by go_num, HB, trivial⟩, by simp [intOf]; omega⟩
      · obtain rfl : k = s.size := by omega
        have HB := Aside.mk (show s.data.toList.all idB = true by have := HK.out; rwa [List.take_of_length_le (by simp)] at this)
        go_wp2_with fail
        go_ret
        exact ⟨by rw [H.out, HB.out]; rfl, rfl⟩
/-- Six ways of a byte of a value, as the walk asks them. -/
theorem val_ways (c : Nat) : (decide ((c : Int) < 33) = true ∧ Aside (c < 33)) ∨ ((decide ((c : Int) < 33) = false ∧ decide (126 < (c : Int)) = true) ∧ Aside (126 < c)) ∨
    ((decide ((c : Int) < 33) = false ∧ decide (126 < (c : Int)) = false ∧ ((c : Int) == 44) = true) ∧ Aside (c = 44)) ∨ ((decide ((c : Int) < 33) = false ∧ decide (126 < (c : Int)) = false ∧ ((c : Int) == 44) = false ∧ ((c : Int) == 59) = true) ∧ Aside (c = 59)) ∨
    ((decide ((c : Int) < 33) = false ∧ decide (126 < (c : Int)) = false ∧ ((c : Int) == 44) = false ∧ ((c : Int) == 59) = false ∧ ((c : Int) == 61) = true) ∧ Aside (c = 61)) ∨
    ((decide ((c : Int) < 33) = false ∧ decide (126 < (c : Int)) = false ∧ ((c : Int) == 44) = false ∧ ((c : Int) == 59) = false ∧ ((c : Int) == 61) = false) ∧ Aside (33 ≤ c ∧ c ≤ 126 ∧ c ≠ 44 ∧ c ≠ 59 ∧ c ≠ 61)) := by
  rcases (by omega : (c < 33) ∨ (126 < c) ∨ c = 44 ∨ c = 59 ∨ c = 61 ∨ (33 ≤ c ∧ c ≤ 126 ∧ c ≠ 44 ∧ c ≠ 59 ∧ c ≠ 61)) with h | h | h | h | h | h
  · exact .inl ⟨by simp; omega, ⟨h⟩⟩
  · exact .inr (.inl ⟨by simp; omega, ⟨h⟩⟩)
  · exact .inr (.inr (.inl ⟨by simp; omega, ⟨h⟩⟩))
  · exact .inr (.inr (.inr (.inl ⟨by simp; omega, ⟨h⟩⟩)))
  · exact .inr (.inr (.inr (.inr (.inl ⟨by simp; omega, ⟨h⟩⟩))))
  · exact .inr (.inr (.inr (.inr (.inr ⟨by simp; omega, ⟨h⟩⟩))))
set_option maxHeartbeats 800000 in
set_option maxRecDepth 100000 in
theorem recValue (s : ByteArray) (w : World) : Calls Tryz.prog 86 #[.string s] w fun e w' => e = .returned (.bool (valOk s)) ∧ w = w' := by
  by_cases h : 12 < s.size
  · have H := Aside.mk (show valOk s = false by unfold valOk; rw [decide_eq_false (by omega : ¬ s.size ≤ 12)]; simp)
    have g8 : decide ((12 : Int) < (s.size : Int)) = true := by simp; omega
    go_enter Tryz.func86, Tryz.ntmps86
    go_wp2_with fail
    go_ret
    exact ⟨by rw [H.out]; rfl, rfl⟩
  · have H := Aside.mk (show valOk s = s.data.toList.all valB by unfold valOk; rw [decide_eq_true (by omega : s.size ≤ 12)]; rfl)
    have g8 : decide ((12 : Int) < (s.size : Int)) = false := by simp; omega
    go_enter Tryz.func86, Tryz.ntmps86
    go_wp2_with fail
    go_loopw [10] (fun i wr => ∃ k : Nat, k ≤ s.size ∧ i = .int .i64 k ∧ Aside ((s.data.toList.take k).all valB = true) ∧ w = wr) (fun i _ => s.size - (intOf i).toNat)
    case atStart => exact ⟨0, Nat.zero_le _, rfl, ⟨rfl⟩, rfl⟩
    case round =>
      obtain ⟨k, hk, rfl, HK, rfl⟩ := hrel
      by_cases hlt : k < s.size
      · have hS := Aside.mk (all_step valB hlt)
        have HF := Aside.mk (all_hit (p := valB) hlt)
        have HD := Aside.mk (show valB s[k] = (decide (33 ≤ s[k].toNat) && decide (s[k].toNat ≤ 126) && decide (s[k].toNat ≠ 44) && decide (s[k].toNat ≠ 59) && decide (s[k].toNat ≠ 61)) from rfl)
        rcases val_ways s[k].toNat with ⟨h1, HC⟩ | ⟨h1, HC⟩ | ⟨h1, HC⟩ | ⟨h1, HC⟩ | ⟨h1, HC⟩ | ⟨h1, HC⟩
        case inr.inr.inr.inr.inr =>
          have HB := Aside.mk (show (s.data.toList.take (k + 1)).all valB = true by have := HC.out; rw [hS.out, HK.out, HD.out]; simp; omega)
          go_wp2_with fail
          refine ⟨⟨k + 1, by omega, by go_num, HB, trivial⟩, by simp [intOf]; omega⟩
        all_goals
          have HB := Aside.mk (HF.out (by have := HC.out; rw [HD.out]; simp; omega))
          go_wp2_with fail
          go_ret
          exact ⟨by rw [H.out, HB.out]; rfl, rfl⟩
      · obtain rfl : k = s.size := by omega
        have HB := Aside.mk (show s.data.toList.all valB = true by have := HK.out; rwa [List.take_of_length_le (by simp)] at this)
        go_wp2_with fail
        go_ret
        exact ⟨by rw [H.out, HB.out]; rfl, rfl⟩
end Go.Proofs.WK
namespace Go.Proofs.WK
open Go.RowKit Rp
abbrev recC (r : Rec) (A1 A2 : Option Addr) (c1 c2 : Nat) : List Value := [.string r.id, .int .i64 r.cats, .slice A1 r.fields.length c1, .slice A2 r.refs.length c2]
abbrev verC (v : Ver) (A1 A2 : Option Addr) (c1 c2 : Nat) : List Value := [.string v.r.id, .int .i64 v.r.cats, .slice A1 v.r.fields.length c1, .slice A2 v.r.refs.length c2, .bool v.gone]
theorem Bk.four {w : World} {n : Nat} {x y z a : Value} (h : Bk w n [x, y, z, a]) : n < w.heap.size ∧ w.cell? ⟨n, 0, none⟩ = some x ∧ w.cell? ⟨n, 1, none⟩ = some y ∧ w.cell? ⟨n, 2, none⟩ = some z ∧ w.cell? ⟨n, 3, none⟩ = some a ∧ (∀ o, w.frozen? ⟨n, o, none⟩ = false) :=
  ⟨h.lt, h.cell 0, h.cell 1, h.cell 2, h.cell 3, h.frozen⟩
theorem Bk.five {w : World} {n : Nat} {x y z a b : Value} (h : Bk w n [x, y, z, a, b]) : n < w.heap.size ∧ w.cell? ⟨n, 0, none⟩ = some x ∧ w.cell? ⟨n, 1, none⟩ = some y ∧ w.cell? ⟨n, 2, none⟩ = some z ∧ w.cell? ⟨n, 3, none⟩ = some a ∧ w.cell? ⟨n, 4, none⟩ = some b ∧ (∀ o, w.frozen? ⟨n, o, none⟩ = false) :=
  ⟨h.lt, h.cell 0, h.cell 1, h.cell 2, h.cell 3, h.cell 4, h.frozen⟩
set_option maxHeartbeats 4000000 in
set_option maxRecDepth 100000 in
theorem recCheck (r : Rec) (A1 A2 : Option Addr) (c1 c2 : Nat) (ok ok' : Nat → Prop) (w : World) (hf : fldR.Row w ok A1 r.fields) (hg : str.Row w ok' A2 r.refs) :
    Calls Tryz.prog 128 #[.agg #[.string r.id, .int .i64 r.cats, .slice A1 r.fields.length c1, .slice A2 r.refs.length c2]] w fun e w' => e = .returned (.int .i64 (recErr r)) ∧ Below w.heap.size w w' := by
  have hb1 : Below w.heap.size w (w.alloc (.cells (recC r A1 A2 c1 c2).toArray 36)) := (Below.refl _ _).alloc (Nat.le_refl _) _
  have HF := Aside.mk (hf.below hb1)
  have HG := Aside.mk (hg.below hb1)
  have HQ := Aside.mk (Bk.made w (recC r A1 A2 c1 c2) 36)
  have HB := Aside.mk hb1
  clear hf hg hb1
  cases hi : idOk r.id with
  | false =>
    have H := Aside.mk (recErr_id hi)
    go_enter Tryz.func128, Tryz.ntmps128
    go_wp2_with (go_at_call 85; refine (recId _ _).mono ?_; rw [hi]; rintro e w' ⟨rfl, rfl⟩)
    go_ret
    exact ⟨by rw [H.out]; rfl, HB.out⟩
  | true =>
    cases hc : decide (0 ≤ r.cats ∧ r.cats ≤ 255) with
    | false =>
      have H := Aside.mk (recErr_cats hi (of_decide_eq_false hc))
      go_enter Tryz.func128, Tryz.ntmps128
      go_wp2_with (first | (go_at_call 85; refine (recId _ _).mono ?_; rw [hi]; rintro e w' ⟨rfl, rfl⟩) | (go_at_call 141; refine (labelCats _ _).mono ?_; rw [hc]; rintro e w' ⟨rfl, rfl⟩))
      go_ret
      exact ⟨by rw [H.out]; rfl, HB.out⟩
    | true =>
      rcases (by simp only [decide_eq_true_eq, decide_eq_false_iff_not]; omega : (decide ((6 : Int) < (r.fields.length : Int)) = true ∧ 6 < r.fields.length) ∨ ((decide ((6 : Int) < (r.fields.length : Int)) = false ∧ decide ((4 : Int) < (r.refs.length : Int)) = true) ∧ 4 < r.refs.length) ∨
        ((decide ((6 : Int) < (r.fields.length : Int)) = false ∧ decide ((4 : Int) < (r.refs.length : Int)) = false) ∧ r.fields.length ≤ 6 ∧ r.refs.length ≤ 4)) with ⟨g, h⟩ | ⟨g, h⟩ | ⟨⟨g1, g2⟩, h1, h2⟩
      case inl | inr.inl =>
        have H := Aside.mk (recErr_len hi (of_decide_eq_true hc) (by omega))
        clear h
        go_enter Tryz.func128, Tryz.ntmps128
        go_wp2_with (first | (go_at_call 85; refine (recId _ _).mono ?_; rw [hi]; rintro e w' ⟨rfl, rfl⟩) | (go_at_call 141; refine (labelCats _ _).mono ?_; rw [hc]; rintro e w' ⟨rfl, rfl⟩))
        go_ret
        exact ⟨by rw [H.out]; rfl, HB.out⟩
      have H := Aside.mk (recErr_end hi (of_decide_eq_true hc) (by omega))
      go_enter Tryz.func128, Tryz.ntmps128
      go_wp2_with (first | (go_at_call 85; refine (recId _ _).mono ?_; rw [hi]; rintro e w' ⟨rfl, rfl⟩) | (go_at_call 141; refine (labelCats _ _).mono ?_; rw [hc]; rintro e w' ⟨rfl, rfl⟩))
      generalize hW : w.alloc (.cells (recC r A1 A2 c1 c2).toArray 36) = w0 at HF HG HQ HB
      clear hW hi hc
      have q0 := HQ.out.four
      go_loopw [28] (fun i wr => ∃ k : Nat, k ≤ r.fields.length ∧ i = .int .i64 k ∧ Aside (fldsOk (r.fields.take k) = true) ∧ Aside (Below w0.heap.size w0 wr)) (fun i _ => r.fields.length - (intOf i).toNat)
      case atStart => exact ⟨0, Nat.zero_le _, rfl, ⟨rfl⟩, ⟨Below.refl _ _⟩⟩
      case round =>
        clear q0
        obtain ⟨k, hk, rfl, HK, HW⟩ := hrel
        have q0 := (HQ.out.below HW.out).four
        by_cases hlt : k < r.fields.length
        · obtain ⟨ad, rfl, _, x0, x1⟩ := fld_at (HF.out.below HW.out) hlt
          have p0 : (0 : Int) ≤ (k : Int) := by omega
          have p1 : (k : Int) < (r.fields.length : Int) := by omega
          have HS := Aside.mk (flds_step hlt)
          have HX := Aside.mk (flds_bad hlt)
          have hal := HW.out.alloc HW.out.size (.cells #[.string r.fields[k].key, .string r.fields[k].val] 38)
          have HW2 := Aside.mk hal
          have q1 := (HQ.out.below hal).four
          have q2 := (Bk.made wr [.string r.fields[k].key, .string r.fields[k].val] 38).two
          clear hal q0
          have hways : (idOk r.fields[k].key = false ∧ Aside (fldsOk r.fields = false)) ∨ ((idOk r.fields[k].key = true ∧ valOk r.fields[k].val = false) ∧ Aside (fldsOk r.fields = false)) ∨
              ((idOk r.fields[k].key = true ∧ valOk r.fields[k].val = true ∧ k = 0) ∧ Aside (fldsOk (r.fields.take (k + 1)) = true)) ∨
              ((idOk r.fields[k].key = true ∧ valOk r.fields[k].val = true ∧ 0 < k ∧ slt (r.fields[k - 1]'(by omega)).key r.fields[k].key = false) ∧ Aside (fldsOk r.fields = false)) ∨
              ((idOk r.fields[k].key = true ∧ valOk r.fields[k].val = true ∧ 0 < k ∧ slt (r.fields[k - 1]'(by omega)).key r.fields[k].key = true) ∧ Aside (fldsOk (r.fields.take (k + 1)) = true)) := by
            cases a1 : idOk r.fields[k].key
            · exact .inl ⟨rfl, ⟨HX.out (by unfold fldOk; rw [a1]; rfl)⟩⟩
            · cases a2 : valOk r.fields[k].val
              · exact .inr (.inl ⟨⟨rfl, rfl⟩, ⟨HX.out (by unfold fldOk; rw [a1, a2]; rfl)⟩⟩)
              · rcases Nat.eq_zero_or_pos k with h0 | h0
                · exact .inr (.inr (.inl ⟨⟨rfl, rfl, h0⟩, ⟨by rw [HS.out, HK.out, fldOk, a1, a2, decide_eq_true h0]; rfl⟩⟩))
                · cases a3 : slt (r.fields[k - 1]'(by omega)).key r.fields[k].key
                  · exact .inr (.inr (.inr (.inl ⟨⟨rfl, rfl, h0, rfl⟩, ⟨HX.out (by rw [fldOk, a1, a2, a3, decide_eq_false (by omega : ¬ k = 0)]; rfl)⟩⟩)))
                  · exact .inr (.inr (.inr (.inr ⟨⟨rfl, rfl, h0, rfl⟩, ⟨by rw [HS.out, HK.out, fldOk, a1, a2, a3]; simp⟩⟩)))
          rcases hways with ⟨a1, HT⟩ | ⟨⟨a1, a2⟩, HT⟩ | ⟨⟨a1, a2, h0⟩, HT⟩ | ⟨⟨a1, a2, h0, a3⟩, HT⟩ | ⟨⟨a1, a2, h0, a3⟩, HT⟩
          case inl | inr.inl =>
            go_wp2_with fail
            go_quiet ((first | (go_at_call 85; exact Calls.quiet_of_same ((recId _ _).mono fun _ _ h => ⟨h.1.trans (by rw [a1]), h.2.symm⟩)) | (go_at_call 86; exact Calls.quiet_of_same ((recValue _ _).mono fun _ _ h => ⟨h.1.trans (by rw [a2]), h.2.symm⟩))))
            go_wp2
            go_ret
            exact ⟨by rw [H.out, HT.out]; rfl, below_step HB.out (below_drewN HW2.out _)⟩
          · have g0 : decide (0 < k) = false := by simp; omega
            clear h0
            go_wp2_with fail
            go_quiet ((first | (go_at_call 85; exact Calls.quiet_of_same ((recId _ _).mono fun _ _ h => ⟨h.1.trans (by rw [a1]), h.2.symm⟩)) | (go_at_call 86; exact Calls.quiet_of_same ((recValue _ _).mono fun _ _ h => ⟨h.1.trans (by rw [a2]), h.2.symm⟩))))
            go_wp2
            refine ⟨⟨k + 1, by omega, by go_num, HT, ⟨below_drewN HW2.out _⟩⟩, by simp [intOf]; omega⟩
          all_goals
            obtain ⟨ad2, e2, _, y0, y1⟩ := fld_at (HF.out.below HW2.out) (k := k - 1) (by omega)
            cases e2
            have g0 : decide ((0 : Int) < (k : Int)) = true := by simp; omega
            have p2 : (0 : Int) ≤ (k : Int) - 1 := by omega
            have p3 : (k : Int) - 1 < (r.fields.length : Int) := by omega
            unfold slt at a3
          · go_wp2_with fail
            go_quiet ((first | (go_at_call 85; exact Calls.quiet_of_same ((recId _ _).mono fun _ _ h => ⟨h.1.trans (by rw [a1]), h.2.symm⟩)) | (go_at_call 86; exact Calls.quiet_of_same ((recValue _ _).mono fun _ _ h => ⟨h.1.trans (by rw [a2]), h.2.symm⟩))))
            go_wp2
            go_ret
            exact ⟨by rw [H.out, HT.out]; rfl, below_step HB.out (below_drewN HW2.out _)⟩
          · go_wp2_with fail
            go_quiet ((first | (go_at_call 85; exact Calls.quiet_of_same ((recId _ _).mono fun _ _ h => ⟨h.1.trans (by rw [a1]), h.2.symm⟩)) | (go_at_call 86; exact Calls.quiet_of_same ((recValue _ _).mono fun _ _ h => ⟨h.1.trans (by rw [a2]), h.2.symm⟩))))
            go_wp2
            refine ⟨⟨k + 1, by omega, by go_num, HT, ⟨below_drewN HW2.out _⟩⟩, by simp [intOf]; omega⟩
        · obtain rfl : k = r.fields.length := by omega
          have HK1 := Aside.mk (show fldsOk r.fields = true by have := HK.out; rwa [List.take_length] at this)
          have HQ2 := Aside.mk (HQ.out.below HW.out)
          have HG2 := Aside.mk (HG.out.below HW.out)
          have HB2 := Aside.mk (below_step HB.out HW.out)
          clear HQ HG HB HW HK HF
          go_wp2_with fail
          rename World => w5
          go_loopw [63] (fun i wr => ∃ k : Nat, k ≤ r.refs.length ∧ i = .int .i64 k ∧ Aside (refsOk (r.refs.take k) = true) ∧ Aside (Below w5.heap.size w5 wr)) (fun i _ => r.refs.length - (intOf i).toNat)
          case atStart => exact ⟨0, Nat.zero_le _, rfl, ⟨rfl⟩, ⟨Below.refl _ _⟩⟩
          case round =>
            clear q0
            obtain ⟨k, hk, rfl, HK, HW⟩ := hrel
            have q0 := (HQ2.out.below HW.out).four
            by_cases hlt : k < r.refs.length
            · obtain ⟨ad, rfl, _, x0⟩ := str_at (HG2.out.below HW.out) hlt
              have p0 : (0 : Int) ≤ (k : Int) := by omega
              have p1 : (k : Int) < (r.refs.length : Int) := by omega
              have HS := Aside.mk (refs_step hlt)
              have HX := Aside.mk (refs_bad hlt)
              have hways : (idOk r.refs[k] = false ∧ Aside (refsOk r.refs = false)) ∨ ((idOk r.refs[k] = true ∧ k = 0) ∧ Aside (refsOk (r.refs.take (k + 1)) = true)) ∨
                  ((idOk r.refs[k] = true ∧ 0 < k ∧ slt (r.refs[k - 1]'(by omega)) r.refs[k] = false) ∧ Aside (refsOk r.refs = false)) ∨
                  ((idOk r.refs[k] = true ∧ 0 < k ∧ slt (r.refs[k - 1]'(by omega)) r.refs[k] = true) ∧ Aside (refsOk (r.refs.take (k + 1)) = true)) := by
                cases a1 : idOk r.refs[k]
                · exact .inl ⟨rfl, ⟨HX.out (by rw [a1]; rfl)⟩⟩
                · rcases Nat.eq_zero_or_pos k with h0 | h0
                  · exact .inr (.inl ⟨⟨rfl, h0⟩, ⟨by rw [HS.out, HK.out, a1, decide_eq_true h0]; rfl⟩⟩)
                  · cases a3 : slt (r.refs[k - 1]'(by omega)) r.refs[k]
                    · exact .inr (.inr (.inl ⟨⟨rfl, h0, rfl⟩, ⟨HX.out (by rw [a1, a3, decide_eq_false (by omega : ¬ k = 0)]; rfl)⟩⟩))
                    · exact .inr (.inr (.inr ⟨⟨rfl, h0, rfl⟩, ⟨by rw [HS.out, HK.out, a1, a3]; simp⟩⟩))
              rcases hways with ⟨a1, HT⟩ | ⟨⟨a1, h0⟩, HT⟩ | ⟨⟨a1, h0, a3⟩, HT⟩ | ⟨⟨a1, h0, a3⟩, HT⟩
              · go_wp2_with (go_at_call 85; refine (recId _ _).mono ?_; rw [a1]; rintro e w' ⟨rfl, rfl⟩)
                go_ret
                exact ⟨by rw [H.out, HT.out]; simp, below_step HB2.out HW.out⟩
              · have g0 : decide (0 < k) = false := by simp; omega
                clear h0
                go_wp2_with (go_at_call 85; refine (recId _ _).mono ?_; rw [a1]; rintro e w' ⟨rfl, rfl⟩)
                refine ⟨⟨k + 1, by omega, by go_num, HT, HW⟩, by simp [intOf]; omega⟩
              all_goals
                obtain ⟨ad2, e2, _, y0⟩ := str_at (HG2.out.below HW.out) (k := k - 1) (by omega)
                cases e2
                have g0 : decide ((0 : Int) < (k : Int)) = true := by simp; omega
                have p2 : (0 : Int) ≤ (k : Int) - 1 := by omega
                have p3 : (k : Int) - 1 < (r.refs.length : Int) := by omega
                unfold slt at a3
                go_wp2_with (go_at_call 85; refine (recId _ _).mono ?_; rw [a1]; rintro e w' ⟨rfl, rfl⟩)
              · go_ret
                exact ⟨by rw [H.out, HT.out]; simp, below_step HB2.out HW.out⟩
              · refine ⟨⟨k + 1, by omega, by go_num, HT, HW⟩, by simp [intOf]; omega⟩
            · obtain rfl : k = r.refs.length := by omega
              have HK2 := Aside.mk (show refsOk r.refs = true by have := HK.out; rwa [List.take_length] at this)
              go_wp2_with fail
              go_ret
              exact ⟨by rw [H.out, HK1.out, HK2.out]; rfl, below_step HB2.out HW.out⟩
end Go.Proofs.WK
namespace Go.Proofs.WK
open Go.RowKit Rp
theorem Own.sl_new {α : Type} {d : Rp α} {e base : Nat} {w : World} {v : Value} {xs : List α} (h : d.Own e w base (fun k => base ≤ k) v xs) : d.Sl w (fun k => base ≤ k) v xs :=
  h.sl.mono fun k hk _ => hk.elim id fun h2 => (h.lt k h2).1
theorem infoF : (Tryz.prog.info? 38).map (fun i => (i.zero, i.size, i.bytes)) = some (some (.agg #[.string ByteArray.empty, .string ByteArray.empty]), 2, 32) := by kernel_rfl
theorem infoV : (Tryz.prog.info? 63).map (fun i => (i.zero, i.size, i.bytes)) = some (some (.agg #[.string ByteArray.empty, .int .i64 0, .slice none 0 0, .slice none 0 0, .bool false]), 5, 80) := by kernel_rfl
theorem infoR : (Tryz.prog.info? 89).map (fun i => (i.zero, i.size, i.bytes)) = some (some (.agg #[.int .i64 0, .int .i64 0, .int .i64 0, .int .i64 0, .int .i64 0, .bool false]), 6, 48) := by kernel_rfl
theorem infoN : (Tryz.prog.info? 116).map (fun i => (i.zero, i.size, i.bytes)) = some (some (.agg #[.int .i64 0, .int .i64 0, .int .i64 0, .string ByteArray.empty]), 4, 40) := by kernel_rfl
theorem infoSt : (Tryz.prog.info? 9).map (fun i => (i.zero, i.size, i.bytes)) = some (some (.string ByteArray.empty), 1, 16) := by kernel_rfl
theorem infoI : (Tryz.prog.info? 3).map (fun i => (i.zero, i.size, i.bytes)) = some (some (.int .i64 0), 1, 8) := by kernel_rfl
set_option maxHeartbeats 800000 in
set_option maxRecDepth 100000 in
theorem cloneF (A : Option Addr) (c : Nat) (l : List Fld) (ok : Nat → Prop) (w : World) (hr : fldR.Row w ok A l) (hl : l.length * 32 ≤ 140737488355328) :
    Calls Tryz.prog 197 #[.slice A l.length c] w fun e w' => ∃ v, e = .returned v ∧ fldR.Own 38 w' w.heap.size (fun k => ok k ∧ k < w.heap.size) v l ∧ Below w.heap.size w w' := by
  have HR := Aside.mk (hr.mono (ok' := fun k => ok k ∧ k < w.heap.size) fun k h1 h2 => ⟨h1, h2⟩)
  clear hr
  have he := fun (W : World) (a : Option Addr) (n c : Nat) => Lib.run_eql_slice_nil (P := Tryz.prog) W 33 38 a n c 0 0 Tryz.underlying33
  cases A with
  | none =>
    have h0 : l = [] := by
      cases l with
      | nil => rfl
      | cons y ys => obtain ⟨_, e, _⟩ := HR.out.2 0 y rfl; cases e
    subst h0
    go_enter Tryz.func197, Tryz.ntmps197
    go_wp2
    go_ret
    exact ⟨_, rfl, Own.nil _ _ _ _ _, Below.refl _ _⟩
  | some ad =>
    go_enter Tryz.func197, Tryz.ntmps197
    go_wp2_with (at_builtin; refine append_row (w0 := w) (ok1 := fun k => ok k ∧ k < w.heap.size) fldR w.heap.size rfl (.tmp 5) (.tmp 6) 33 38 _ 32 rfl Tryz.underlying33 infoF rfl (by decide) (by decide) (.slice (some ⟨w.heap.size, 0, none⟩) 0 0) [] l (some ad) c (fun k => ok k ∧ k < w.heap.size) rfl rfl ?hp (fun _ _ h => fldR.mono (fun k h1 _ => ⟨h1, by have := h1.2; simp [Value.ownBlock]; omega⟩) h) ?ho ?hb ?hs ?hl ?_; (case hl => simpa using hl); (case hs => simp); (case hb => exact (Below.refl _ _).alloc (Nat.le_refl _) _); (case ho => exact Own.empty _ _ _ _ _ (Nat.le_refl _)); (case hp => exact HR.out.below ((Below.refl _ _).alloc (Nat.le_refl _) _)); intro v1 w1 HO HB hg hat)
    go_ret
    exact ⟨_, rfl, by simpa using HO, HB⟩
set_option maxHeartbeats 800000 in
set_option maxRecDepth 100000 in
theorem cloneSt (A : Option Addr) (c : Nat) (l : List ByteArray) (ok : Nat → Prop) (w : World) (hr : str.Row w ok A l) (hl : l.length * 16 ≤ 140737488355328) :
    Calls Tryz.prog 89 #[.slice A l.length c] w fun e w' => ∃ v, e = .returned v ∧ str.Own 9 w' w.heap.size (fun k => ok k ∧ k < w.heap.size) v l ∧ Below w.heap.size w w' := by
  have HR := Aside.mk (hr.mono (ok' := fun k => ok k ∧ k < w.heap.size) fun k h1 h2 => ⟨h1, h2⟩)
  clear hr
  have he := fun (W : World) (a : Option Addr) (n c : Nat) => Lib.run_eql_slice_nil (P := Tryz.prog) W 34 9 a n c 0 0 Tryz.underlying34
  cases A with
  | none =>
    have h0 : l = [] := by
      cases l with
      | nil => rfl
      | cons y ys => obtain ⟨_, e, _⟩ := HR.out.2 0 y rfl; cases e
    subst h0
    go_enter Tryz.func89, Tryz.ntmps89
    go_wp2
    go_ret
    exact ⟨_, rfl, Own.nil _ _ _ _ _, Below.refl _ _⟩
  | some ad =>
    go_enter Tryz.func89, Tryz.ntmps89
    go_wp2_with (at_builtin; refine append_row (w0 := w) (ok1 := fun k => ok k ∧ k < w.heap.size) str w.heap.size rfl (.tmp 5) (.tmp 6) 34 9 _ 16 rfl Tryz.underlying34 infoSt rfl (by decide) (by decide) (.slice (some ⟨w.heap.size, 0, none⟩) 0 0) [] l (some ad) c (fun k => ok k ∧ k < w.heap.size) rfl rfl ?hp (fun _ _ h => str.mono (fun k h1 _ => ⟨h1, by have := h1.2; simp [Value.ownBlock]; omega⟩) h) ?ho ?hb ?hs ?hl ?_; (case hl => simpa using hl); (case hs => simp); (case hb => exact (Below.refl _ _).alloc (Nat.le_refl _) _); (case ho => exact Own.empty _ _ _ _ _ (Nat.le_refl _)); (case hp => exact HR.out.below ((Below.refl _ _).alloc (Nat.le_refl _) _)); intro v1 w1 HO HB hg hat)
    go_ret
    exact ⟨_, rfl, by simpa using HO, HB⟩
set_option maxHeartbeats 800000 in
set_option maxRecDepth 100000 in
theorem cloneV (A : Option Addr) (c : Nat) (l : List Ver) (ok : Nat → Prop) (w : World) (hr : verR.Row w ok A l) (hl : l.length * 80 ≤ 140737488355328) :
    Calls Tryz.prog 130 #[.slice A l.length c] w fun e w' => ∃ v, e = .returned v ∧ verR.Own 63 w' w.heap.size (fun k => ok k ∧ k < w.heap.size) v l ∧ Below w.heap.size w w' := by
  have HR := Aside.mk (hr.mono (ok' := fun k => ok k ∧ k < w.heap.size) fun k h1 h2 => ⟨h1, h2⟩)
  clear hr
  have he := fun (W : World) (a : Option Addr) (n c : Nat) => Lib.run_eql_slice_nil (P := Tryz.prog) W 42 63 a n c 0 0 Tryz.underlying42
  cases A with
  | none =>
    have h0 : l = [] := by
      cases l with
      | nil => rfl
      | cons y ys => obtain ⟨_, e, _⟩ := HR.out.2 0 y rfl; cases e
    subst h0
    go_enter Tryz.func130, Tryz.ntmps130
    go_wp2
    go_ret
    exact ⟨_, rfl, Own.nil _ _ _ _ _, Below.refl _ _⟩
  | some ad =>
    go_enter Tryz.func130, Tryz.ntmps130
    go_wp2_with (at_builtin; refine append_row (w0 := w) (ok1 := fun k => ok k ∧ k < w.heap.size) verR w.heap.size rfl (.tmp 5) (.tmp 6) 42 63 _ 80 rfl Tryz.underlying42 infoV rfl (by decide) (by decide) (.slice (some ⟨w.heap.size, 0, none⟩) 0 0) [] l (some ad) c (fun k => ok k ∧ k < w.heap.size) rfl rfl ?hp (fun _ _ h => verR.mono (fun k h1 _ => ⟨h1, by have := h1.2; simp [Value.ownBlock]; omega⟩) h) ?ho ?hb ?hs ?hl ?_; (case hl => simpa using hl); (case hs => simp); (case hb => exact (Below.refl _ _).alloc (Nat.le_refl _) _); (case ho => exact Own.empty _ _ _ _ _ (Nat.le_refl _)); (case hp => exact HR.out.below ((Below.refl _ _).alloc (Nat.le_refl _) _)); intro v1 w1 HO HB hg hat)
    go_ret
    exact ⟨_, rfl, by simpa using HO, HB⟩
set_option maxHeartbeats 800000 in
set_option maxRecDepth 100000 in
theorem cloneR (A : Option Addr) (c : Nat) (l : List Rul) (ok : Nat → Prop) (w : World) (hr : rulR.Row w ok A l) (hl : l.length * 48 ≤ 140737488355328) :
    Calls Tryz.prog 50 #[.slice A l.length c] w fun e w' => ∃ v, e = .returned v ∧ rulR.Own 89 w' w.heap.size (fun k => ok k ∧ k < w.heap.size) v l ∧ Below w.heap.size w w' := by
  have HR := Aside.mk (hr.mono (ok' := fun k => ok k ∧ k < w.heap.size) fun k h1 h2 => ⟨h1, h2⟩)
  clear hr
  have he := fun (W : World) (a : Option Addr) (n c : Nat) => Lib.run_eql_slice_nil (P := Tryz.prog) W 32 89 a n c 0 0 Tryz.underlying32
  cases A with
  | none =>
    have h0 : l = [] := by
      cases l with
      | nil => rfl
      | cons y ys => obtain ⟨_, e, _⟩ := HR.out.2 0 y rfl; cases e
    subst h0
    go_enter Tryz.func50, Tryz.ntmps50
    go_wp2
    go_ret
    exact ⟨_, rfl, Own.nil _ _ _ _ _, Below.refl _ _⟩
  | some ad =>
    go_enter Tryz.func50, Tryz.ntmps50
    go_wp2_with (at_builtin; refine append_row (w0 := w) (ok1 := fun k => ok k ∧ k < w.heap.size) rulR w.heap.size rfl (.tmp 5) (.tmp 6) 32 89 _ 48 rfl Tryz.underlying32 infoR rfl (by decide) (by decide) (.slice (some ⟨w.heap.size, 0, none⟩) 0 0) [] l (some ad) c (fun k => ok k ∧ k < w.heap.size) rfl rfl ?hp (fun _ _ h => rulR.mono (fun k h1 _ => ⟨h1, by have := h1.2; simp [Value.ownBlock]; omega⟩) h) ?ho ?hb ?hs ?hl ?_; (case hl => simpa using hl); (case hs => simp); (case hb => exact (Below.refl _ _).alloc (Nat.le_refl _) _); (case ho => exact Own.empty _ _ _ _ _ (Nat.le_refl _)); (case hp => exact HR.out.below ((Below.refl _ _).alloc (Nat.le_refl _) _)); intro v1 w1 HO HB hg hat)
    go_ret
    exact ⟨_, rfl, by simpa using HO, HB⟩
set_option maxHeartbeats 800000 in
set_option maxRecDepth 100000 in
theorem cloneN (A : Option Addr) (c : Nat) (l : List Nte) (ok : Nat → Prop) (w : World) (hr : nteR.Row w ok A l) (hl : l.length * 40 ≤ 140737488355328) :
    Calls Tryz.prog 55 #[.slice A l.length c] w fun e w' => ∃ v, e = .returned v ∧ nteR.Own 116 w' w.heap.size (fun k => ok k ∧ k < w.heap.size) v l ∧ Below w.heap.size w w' := by
  have HR := Aside.mk (hr.mono (ok' := fun k => ok k ∧ k < w.heap.size) fun k h1 h2 => ⟨h1, h2⟩)
  clear hr
  have he := fun (W : World) (a : Option Addr) (n c : Nat) => Lib.run_eql_slice_nil (P := Tryz.prog) W 43 116 a n c 0 0 Tryz.underlying43
  cases A with
  | none =>
    have h0 : l = [] := by
      cases l with
      | nil => rfl
      | cons y ys => obtain ⟨_, e, _⟩ := HR.out.2 0 y rfl; cases e
    subst h0
    go_enter Tryz.func55, Tryz.ntmps55
    go_wp2
    go_ret
    exact ⟨_, rfl, Own.nil _ _ _ _ _, Below.refl _ _⟩
  | some ad =>
    go_enter Tryz.func55, Tryz.ntmps55
    go_wp2_with (at_builtin; refine append_row (w0 := w) (ok1 := fun k => ok k ∧ k < w.heap.size) nteR w.heap.size rfl (.tmp 5) (.tmp 6) 43 116 _ 40 rfl Tryz.underlying43 infoN rfl (by decide) (by decide) (.slice (some ⟨w.heap.size, 0, none⟩) 0 0) [] l (some ad) c (fun k => ok k ∧ k < w.heap.size) rfl rfl ?hp (fun _ _ h => nteR.mono (fun k h1 _ => ⟨h1, by have := h1.2; simp [Value.ownBlock]; omega⟩) h) ?ho ?hb ?hs ?hl ?_; (case hl => simpa using hl); (case hs => simp); (case hb => exact (Below.refl _ _).alloc (Nat.le_refl _) _); (case ho => exact Own.empty _ _ _ _ _ (Nat.le_refl _)); (case hp => exact HR.out.below ((Below.refl _ _).alloc (Nat.le_refl _) _)); intro v1 w1 HO HB hg hat)
    go_ret
    exact ⟨_, rfl, by simpa using HO, HB⟩
set_option maxHeartbeats 800000 in
set_option maxRecDepth 100000 in
theorem cloneI (A : Option Addr) (c : Nat) (l : List Int) (ok : Nat → Prop) (w : World) (hr : int.Row w ok A l) (hl : l.length * 8 ≤ 140737488355328) :
    Calls Tryz.prog 97 #[.slice A l.length c] w fun e w' => ∃ v, e = .returned v ∧ int.Own 3 w' w.heap.size (fun k => ok k ∧ k < w.heap.size) v l ∧ Below w.heap.size w w' := by
  have HR := Aside.mk (hr.mono (ok' := fun k => ok k ∧ k < w.heap.size) fun k h1 h2 => ⟨h1, h2⟩)
  clear hr
  have he := fun (W : World) (a : Option Addr) (n c : Nat) => Lib.run_eql_slice_nil (P := Tryz.prog) W 79 3 a n c 0 0 Tryz.underlying79
  cases A with
  | none =>
    have h0 : l = [] := by
      cases l with
      | nil => rfl
      | cons y ys => obtain ⟨_, e, _⟩ := HR.out.2 0 y rfl; cases e
    subst h0
    go_enter Tryz.func97, Tryz.ntmps97
    go_wp2
    go_ret
    exact ⟨_, rfl, Own.nil _ _ _ _ _, Below.refl _ _⟩
  | some ad =>
    go_enter Tryz.func97, Tryz.ntmps97
    go_wp2_with (at_builtin; refine append_row (w0 := w) (ok1 := fun k => ok k ∧ k < w.heap.size) int w.heap.size rfl (.tmp 5) (.tmp 6) 79 3 _ 8 rfl Tryz.underlying79 infoI rfl (by decide) (by decide) (.slice (some ⟨w.heap.size, 0, none⟩) 0 0) [] l (some ad) c (fun k => ok k ∧ k < w.heap.size) rfl rfl ?hp (fun _ _ h => int.mono (fun k h1 _ => ⟨h1, by have := h1.2; simp [Value.ownBlock]; omega⟩) h) ?ho ?hb ?hs ?hl ?_; (case hl => simpa using hl); (case hs => simp); (case hb => exact (Below.refl _ _).alloc (Nat.le_refl _) _); (case ho => exact Own.empty _ _ _ _ _ (Nat.le_refl _)); (case hp => exact HR.out.below ((Below.refl _ _).alloc (Nat.le_refl _) _)); intro v1 w1 HO HB hg hat)
    go_ret
    exact ⟨_, rfl, by simpa using HO, HB⟩
end Go.Proofs.WK
namespace Go.Proofs.WK
open Go.RowKit Rp
theorem fld_flat {w : World} {ok ok' : Nat → Prop} {e base : Nat} {v : Value} {xs : List Fld} (h : fldR.Own e w base ok v xs) : fldR.Own e w base ok' v xs := h
theorem str_flat {w : World} {ok ok' : Nat → Prop} {e base : Nat} {v : Value} {xs : List ByteArray} (h : str.Own e w base ok v xs) : str.Own e w base ok' v xs := h
theorem sets6 {w2 : World} {n m k : Nat} {a b c d e f : Value} (h1 : k ≠ n) (h2 : k ≠ m) : ((((((w2.setCell ⟨n, 2, none⟩ a).setCell ⟨n, 3, none⟩ b).setCell ⟨m, 0, none⟩ c).setCell ⟨m, 1, none⟩ d).setCell ⟨m, 2, none⟩ e).setCell ⟨m, 3, none⟩ f).heap[k]? = w2.heap[k]? := by
  rw [Below.heap_setCell _ _ _ k h2, Below.heap_setCell _ _ _ k h2, Below.heap_setCell _ _ _ k h2, Below.heap_setCell _ _ _ k h2, Below.heap_setCell _ _ _ k h1, Below.heap_setCell _ _ _ k h1]
set_option maxHeartbeats 4000000 in
set_option maxRecDepth 100000 in
theorem recCopied (r : Rec) (A1 A2 : Option Addr) (c1 c2 : Nat) (ok ok' : Nat → Prop) (w : World) (hf : fldR.Row w ok A1 r.fields) (hg : str.Row w ok' A2 r.refs) (l1 : r.fields.length ≤ 6) (l2 : r.refs.length ≤ 4) :
    Calls Tryz.prog 145 #[.agg #[.string r.id, .int .i64 r.cats, .slice A1 r.fields.length c1, .slice A2 r.refs.length c2]] w fun e w' => ∃ v1 v2, e = .returned (.agg #[.string r.id, .int .i64 r.cats, v1, v2]) ∧
      fldR.Sl w' (fun k => w.heap.size ≤ k) v1 r.fields ∧ str.Sl w' (fun k => w.heap.size ≤ k) v2 r.refs ∧ Below w.heap.size w w' := by
  have hb1 : Below w.heap.size w ((w.alloc (.cells (recC r A1 A2 c1 c2).toArray 36)).alloc (.cells #[.string ⟨#[]⟩, .int .i64 0, .slice none 0 0, .slice none 0 0] 36)) := ((Below.refl _ _).alloc (Nat.le_refl _) _).alloc (by simp) _
  have HF := Aside.mk (hf.below hb1)
  have HG := Aside.mk (hg.below hb1)
  have HQ := Aside.mk ((Bk.made w (recC r A1 A2 c1 c2) 36).alloc (.cells #[.string ⟨#[]⟩, .int .i64 0, .slice none 0 0, .slice none 0 0] 36))
  have HB := Aside.mk hb1
  have HP := Aside.mk (Bk.made (w.alloc (.cells (recC r A1 A2 c1 c2).toArray 36)) [.string ⟨#[]⟩, .int .i64 0, .slice none 0 0, .slice none 0 0] 36)
  rw [show (w.alloc (.cells (recC r A1 A2 c1 c2).toArray 36)).heap.size = w.heap.size + 1 from by simp] at HP
  have l1' : r.fields.length * 32 ≤ 140737488355328 := by omega
  have l2' : r.refs.length * 16 ≤ 140737488355328 := by omega
  clear hf hg hb1 l1 l2
  go_enter Tryz.func145, Tryz.ntmps145
  go_wp2_with fail
  generalize hW : (w.alloc (.cells (recC r A1 A2 c1 c2).toArray 36)).alloc (.cells #[.string ⟨#[]⟩, .int .i64 0, .slice none 0 0, .slice none 0 0] 36) = w0 at HF HG HQ HB HP ⊢
  clear hW
  have q0 := HQ.out.four
  go_region_with (first
    | (go_at_call 197; refine (cloneF A1 c1 r.fields ok _ (HF.out.below (below_drewN (Below.refl _ _) 1)) l1').mono ?_; rintro e w1 ⟨v1, rfl, ho, hb⟩; obtain ⟨A3, c3, rfl, _, _⟩ := ho.sl
       have q1 := (HQ.out.below (below_step (below_drewN (Below.refl _ _) 1) hb)).four
       have HX := Aside.mk (And.intro ho (below_step (below_drewN (Below.refl _ _) 1) hb)); clear ho hb)
    | (go_at_call 89; refine (cloneSt A2 c2 r.refs ok' _ (HG.out.below HX.out.2) l2').mono ?_; rintro e w2 ⟨v2, rfl, ho, hb⟩; obtain ⟨A4, c4, rfl, _, _⟩ := ho.sl
       have q2 := (HQ.out.below (below_step HX.out.2 hb)).four
       have q3 := (HP.out.below (below_step HX.out.2 hb)).four
       have HY := Aside.mk (And.intro ho hb); clear ho hb))
  all_goals
    have q4 : w.heap.size ≤ w0.heap.size ∧ w.heap.size + 1 < w0.heap.size := ⟨HB.out.size, HP.out.lt⟩
    have HZ : Aside (∀ k, w0.heap.size ≤ k → k ≠ w.heap.size ∧ k ≠ w.heap.size + 1 ∧ w.heap.size ≤ k) := ⟨fun k hk => by omega⟩
    clear q0 q1 q4 HF HG HQ HP l1' l2'
    go_wp2
    refine bodyPost_ret (v := .agg #[.string r.id, .int .i64 r.cats, .slice A3 r.fields.length c3, .slice A4 r.refs.length c4]) ?_ rfl ⟨_, _, rfl, ?_, ?_, ?_⟩
    · simp [results, Tryz.results145, go_sem, q3]
    · have h1 := (fld_flat (ok' := fun _ => False) HX.out.1).sl.mono (ok' := fun k => w0.heap.size ≤ k) fun k hk _ => hk.elim (fun h => h.elim) fun h2 => (HX.out.1.lt k h2).1
      exact ((h1.below HY.out.2).move fun k hk _ => sets6 (HZ.out k hk).1 (HZ.out k hk).2.1).mono fun k hk _ => (HZ.out k hk).2.2
    · have h1 := (str_flat (ok' := fun _ => False) HY.out.1).sl.mono (ok' := fun k => w0.heap.size ≤ k) fun k hk _ => hk.elim (fun h => h.elim) fun h2 => Nat.le_trans HX.out.2.size (HY.out.1.lt k h2).1
      exact (h1.move fun k hk _ => sets6 (HZ.out k hk).1 (HZ.out k hk).2.1).mono fun k hk _ => (HZ.out k hk).2.2
    · have hb := below_step HB.out (below_step HX.out.2 HY.out.2)
      exact below_set (below_set (below_set (below_set (below_set (below_set hb (Nat.le_refl _) _) (Nat.le_refl _) _) (Nat.le_succ _) _) (Nat.le_succ _) _) (Nat.le_succ _) _) (Nat.le_succ _) _
end Go.Proofs.WK
