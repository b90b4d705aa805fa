/-
  record.Check (P16).
-/
import Derived.Test.YtljjiicjnoljbaaDoorRec
namespace Go.Proofs.WK
open Go.RowKit Rp
abbrev recC (r : Rec) (A1 A2 : Option Addr) (c1 c2 : Nat) : List Value := [.string r.id, .int .i64 r.cats, .slice A1 r.fields.length c1, .slice A2 r.refs.length c2]
abbrev verC (v : Ver) (A1 A2 : Option Addr) (c1 c2 : Nat) : List Value := [.string v.r.id, .int .i64 v.r.cats, .slice A1 v.r.fields.length c1, .slice A2 v.r.refs.length c2, .bool v.gone]
theorem Bk.four {w : World} {n : Nat} {x y z a : Value} (h : Bk w n [x, y, z, a]) : n < w.heap.size ∧ w.cell? ⟨n, 0, none⟩ = some x ∧ w.cell? ⟨n, 1, none⟩ = some y ∧ w.cell? ⟨n, 2, none⟩ = some z ∧ w.cell? ⟨n, 3, none⟩ = some a ∧ (∀ o, w.frozen? ⟨n, o, none⟩ = false) :=
  ⟨h.lt, h.cell 0, h.cell 1, h.cell 2, h.cell 3, h.frozen⟩
theorem Bk.five {w : World} {n : Nat} {x y z a b : Value} (h : Bk w n [x, y, z, a, b]) : n < w.heap.size ∧ w.cell? ⟨n, 0, none⟩ = some x ∧ w.cell? ⟨n, 1, none⟩ = some y ∧ w.cell? ⟨n, 2, none⟩ = some z ∧ w.cell? ⟨n, 3, none⟩ = some a ∧ w.cell? ⟨n, 4, none⟩ = some b ∧ (∀ o, w.frozen? ⟨n, o, none⟩ = false) :=
  ⟨h.lt, h.cell 0, h.cell 1, h.cell 2, h.cell 3, h.cell 4, h.frozen⟩
set_option maxHeartbeats 4000000 in
set_option maxRecDepth 100000 in
theorem recCheck (r : Rec) (A1 A2 : Option Addr) (c1 c2 : Nat) (ok ok' : Nat → Prop) (w : World) (hf : fldR.Row w ok A1 r.fields) (hg : str.Row w ok' A2 r.refs) :
    Calls Tryd.prog 53 #[.agg #[.string r.id, .int .i64 r.cats, .slice A1 r.fields.length c1, .slice A2 r.refs.length c2]] w fun e w' => e = .returned (.int .i64 (recErr r)) ∧ Below w.heap.size w w' := by
  have hb1 : Below w.heap.size w (w.alloc (.cells (recC r A1 A2 c1 c2).toArray 35)) := (Below.refl _ _).alloc (Nat.le_refl _) _
  have HF := Aside.mk (hf.below hb1)
  have HG := Aside.mk (hg.below hb1)
  have HQ := Aside.mk (Bk.made w (recC r A1 A2 c1 c2) 35)
  have HB := Aside.mk hb1
  clear hf hg hb1
  cases hi : idOk r.id with
  | false =>
    have H := Aside.mk (recErr_id hi)
    go_enter Tryd.func53, Tryd.ntmps53
    go_wp2_with (go_at_call 51; refine (recId _ _).mono ?_; rw [hi]; rintro e w' ⟨rfl, rfl⟩)
    go_ret
    exact ⟨by rw [H.out]; rfl, HB.out⟩
  | true =>
    cases hc : decide (0 ≤ r.cats ∧ r.cats ≤ 255) with
    | false =>
      have H := Aside.mk (recErr_cats hi (of_decide_eq_false hc))
      go_enter Tryd.func53, Tryd.ntmps53
      go_wp2_with (first | (go_at_call 51; refine (recId _ _).mono ?_; rw [hi]; rintro e w' ⟨rfl, rfl⟩) | (go_at_call 64; refine (labelCats _ _).mono ?_; rw [hc]; rintro e w' ⟨rfl, rfl⟩))
      go_ret
      exact ⟨by rw [H.out]; rfl, HB.out⟩
    | true =>
      rcases (by simp only [decide_eq_true_eq, decide_eq_false_iff_not]; omega : (decide ((6 : Int) < (r.fields.length : Int)) = true ∧ 6 < r.fields.length) ∨ ((decide ((6 : Int) < (r.fields.length : Int)) = false ∧ decide ((4 : Int) < (r.refs.length : Int)) = true) ∧ 4 < r.refs.length) ∨
        ((decide ((6 : Int) < (r.fields.length : Int)) = false ∧ decide ((4 : Int) < (r.refs.length : Int)) = false) ∧ r.fields.length ≤ 6 ∧ r.refs.length ≤ 4)) with ⟨g, h⟩ | ⟨g, h⟩ | ⟨⟨g1, g2⟩, h1, h2⟩
      case inl | inr.inl =>
        have H := Aside.mk (recErr_len hi (of_decide_eq_true hc) (by omega))
        clear h
        go_enter Tryd.func53, Tryd.ntmps53
        go_wp2_with (first | (go_at_call 51; refine (recId _ _).mono ?_; rw [hi]; rintro e w' ⟨rfl, rfl⟩) | (go_at_call 64; refine (labelCats _ _).mono ?_; rw [hc]; rintro e w' ⟨rfl, rfl⟩))
        go_ret
        exact ⟨by rw [H.out]; rfl, HB.out⟩
      have H := Aside.mk (recErr_end hi (of_decide_eq_true hc) (by omega))
      go_enter Tryd.func53, Tryd.ntmps53
      go_wp2_with (first | (go_at_call 51; refine (recId _ _).mono ?_; rw [hi]; rintro e w' ⟨rfl, rfl⟩) | (go_at_call 64; refine (labelCats _ _).mono ?_; rw [hc]; rintro e w' ⟨rfl, rfl⟩))
      generalize hW : w.alloc (.cells (recC r A1 A2 c1 c2).toArray 35) = w0 at HF HG HQ HB
      clear hW hi hc
      have q0 := HQ.out.four
      go_loopw [28] (fun i wr => ∃ k : Nat, k ≤ r.fields.length ∧ i = .int .i64 k ∧ Aside (fldsOk (r.fields.take k) = true) ∧ Aside (Below w0.heap.size w0 wr)) (fun i _ => r.fields.length - (intOf i).toNat)
      case atStart => exact ⟨0, Nat.zero_le _, rfl, ⟨rfl⟩, ⟨Below.refl _ _⟩⟩
      case round =>
        clear q0
        obtain ⟨k, hk, rfl, HK, HW⟩ := hrel
        have q0 := (HQ.out.below HW.out).four
        by_cases hlt : k < r.fields.length
        · obtain ⟨ad, rfl, _, x0, x1⟩ := fld_at (HF.out.below HW.out) hlt
          have p0 : (0 : Int) ≤ (k : Int) := by omega
          have p1 : (k : Int) < (r.fields.length : Int) := by omega
          have HS := Aside.mk (flds_step hlt)
          have HX := Aside.mk (flds_bad hlt)
          have hal := HW.out.alloc HW.out.size (.cells #[.string r.fields[k].key, .string r.fields[k].val] 46)
          have HW2 := Aside.mk hal
          have q1 := (HQ.out.below hal).four
          have q2 := (Bk.made wr [.string r.fields[k].key, .string r.fields[k].val] 46).two
          clear hal q0
          have hways : (idOk r.fields[k].key = false ∧ Aside (fldsOk r.fields = false)) ∨ ((idOk r.fields[k].key = true ∧ valOk r.fields[k].val = false) ∧ Aside (fldsOk r.fields = false)) ∨
              ((idOk r.fields[k].key = true ∧ valOk r.fields[k].val = true ∧ k = 0) ∧ Aside (fldsOk (r.fields.take (k + 1)) = true)) ∨
              ((idOk r.fields[k].key = true ∧ valOk r.fields[k].val = true ∧ 0 < k ∧ slt (r.fields[k - 1]'(by omega)).key r.fields[k].key = false) ∧ Aside (fldsOk r.fields = false)) ∨
              ((idOk r.fields[k].key = true ∧ valOk r.fields[k].val = true ∧ 0 < k ∧ slt (r.fields[k - 1]'(by omega)).key r.fields[k].key = true) ∧ Aside (fldsOk (r.fields.take (k + 1)) = true)) := by
            cases a1 : idOk r.fields[k].key
            · exact .inl ⟨rfl, ⟨HX.out (by unfold fldOk; rw [a1]; rfl)⟩⟩
            · cases a2 : valOk r.fields[k].val
              · exact .inr (.inl ⟨⟨rfl, rfl⟩, ⟨HX.out (by unfold fldOk; rw [a1, a2]; rfl)⟩⟩)
              · rcases Nat.eq_zero_or_pos k with h0 | h0
                · exact .inr (.inr (.inl ⟨⟨rfl, rfl, h0⟩, ⟨by rw [HS.out, HK.out, fldOk, a1, a2, decide_eq_true h0]; rfl⟩⟩))
                · cases a3 : slt (r.fields[k - 1]'(by omega)).key r.fields[k].key
                  · exact .inr (.inr (.inr (.inl ⟨⟨rfl, rfl, h0, rfl⟩, ⟨HX.out (by rw [fldOk, a1, a2, a3, decide_eq_false (by omega : ¬ k = 0)]; rfl)⟩⟩)))
                  · exact .inr (.inr (.inr (.inr ⟨⟨rfl, rfl, h0, rfl⟩, ⟨by rw [HS.out, HK.out, fldOk, a1, a2, a3]; simp⟩⟩)))
          rcases hways with ⟨a1, HT⟩ | ⟨⟨a1, a2⟩, HT⟩ | ⟨⟨a1, a2, h0⟩, HT⟩ | ⟨⟨a1, a2, h0, a3⟩, HT⟩ | ⟨⟨a1, a2, h0, a3⟩, HT⟩
          case inl | inr.inl =>
            go_wp2_with fail
            go_quiet ((first | (go_at_call 51; exact Calls.quiet_of_same ((recId _ _).mono fun _ _ h => ⟨h.1.trans (by rw [a1]), h.2.symm⟩)) | (go_at_call 52; exact Calls.quiet_of_same ((recValue _ _).mono fun _ _ h => ⟨h.1.trans (by rw [a2]), h.2.symm⟩))))
            go_wp2
            go_ret
            exact ⟨by rw [H.out, HT.out]; rfl, below_step HB.out (below_drewN HW2.out _)⟩
          · have g0 : decide (0 < k) = false := by simp; omega
            clear h0
            go_wp2_with fail
            go_quiet ((first | (go_at_call 51; exact Calls.quiet_of_same ((recId _ _).mono fun _ _ h => ⟨h.1.trans (by rw [a1]), h.2.symm⟩)) | (go_at_call 52; exact Calls.quiet_of_same ((recValue _ _).mono fun _ _ h => ⟨h.1.trans (by rw [a2]), h.2.symm⟩))))
            go_wp2
            refine ⟨⟨k + 1, by omega, by go_num, HT, ⟨below_drewN HW2.out _⟩⟩, by simp [intOf]; omega⟩
          all_goals
            obtain ⟨ad2, e2, _, y0, y1⟩ := fld_at (HF.out.below HW2.out) (k := k - 1) (by omega)
            cases e2
            have g0 : decide ((0 : Int) < (k : Int)) = true := by simp; omega
            have p2 : (0 : Int) ≤ (k : Int) - 1 := by omega
            have p3 : (k : Int) - 1 < (r.fields.length : Int) := by omega
            unfold slt at a3
          · go_wp2_with fail
            go_quiet ((first | (go_at_call 51; exact Calls.quiet_of_same ((recId _ _).mono fun _ _ h => ⟨h.1.trans (by rw [a1]), h.2.symm⟩)) | (go_at_call 52; exact Calls.quiet_of_same ((recValue _ _).mono fun _ _ h => ⟨h.1.trans (by rw [a2]), h.2.symm⟩))))
            go_wp2
            go_ret
            exact ⟨by rw [H.out, HT.out]; rfl, below_step HB.out (below_drewN HW2.out _)⟩
          · go_wp2_with fail
            go_quiet ((first | (go_at_call 51; exact Calls.quiet_of_same ((recId _ _).mono fun _ _ h => ⟨h.1.trans (by rw [a1]), h.2.symm⟩)) | (go_at_call 52; exact Calls.quiet_of_same ((recValue _ _).mono fun _ _ h => ⟨h.1.trans (by rw [a2]), h.2.symm⟩))))
            go_wp2
            refine ⟨⟨k + 1, by omega, by go_num, HT, ⟨below_drewN HW2.out _⟩⟩, by simp [intOf]; omega⟩
        · obtain rfl : k = r.fields.length := by omega
          have HK1 := Aside.mk (show fldsOk r.fields = true by have := HK.out; rwa [List.take_length] at this)
          have HQ2 := Aside.mk (HQ.out.below HW.out)
          have HG2 := Aside.mk (HG.out.below HW.out)
          have HB2 := Aside.mk (below_step HB.out HW.out)
          clear HQ HG HB HW HK HF
          go_wp2_with fail
          rename World => w5
          go_loopw [63] (fun i wr => ∃ k : Nat, k ≤ r.refs.length ∧ i = .int .i64 k ∧ Aside (refsOk (r.refs.take k) = true) ∧ Aside (Below w5.heap.size w5 wr)) (fun i _ => r.refs.length - (intOf i).toNat)
          case atStart => exact ⟨0, Nat.zero_le _, rfl, ⟨rfl⟩, ⟨Below.refl _ _⟩⟩
          case round =>
            clear q0
            obtain ⟨k, hk, rfl, HK, HW⟩ := hrel
            have q0 := (HQ2.out.below HW.out).four
            by_cases hlt : k < r.refs.length
            · obtain ⟨ad, rfl, _, x0⟩ := str_at (HG2.out.below HW.out) hlt
              have p0 : (0 : Int) ≤ (k : Int) := by omega
              have p1 : (k : Int) < (r.refs.length : Int) := by omega
              have HS := Aside.mk (refs_step hlt)
              have HX := Aside.mk (refs_bad hlt)
              have hways : (idOk r.refs[k] = false ∧ Aside (refsOk r.refs = false)) ∨ ((idOk r.refs[k] = true ∧ k = 0) ∧ Aside (refsOk (r.refs.take (k + 1)) = true)) ∨
                  ((idOk r.refs[k] = true ∧ 0 < k ∧ slt (r.refs[k - 1]'(by omega)) r.refs[k] = false) ∧ Aside (refsOk r.refs = false)) ∨
                  ((idOk r.refs[k] = true ∧ 0 < k ∧ slt (r.refs[k - 1]'(by omega)) r.refs[k] = true) ∧ Aside (refsOk (r.refs.take (k + 1)) = true)) := by
                cases a1 : idOk r.refs[k]
                · exact .inl ⟨rfl, ⟨HX.out (by rw [a1]; rfl)⟩⟩
                · rcases Nat.eq_zero_or_pos k with h0 | h0
                  · exact .inr (.inl ⟨⟨rfl, h0⟩, ⟨by rw [HS.out, HK.out, a1, decide_eq_true h0]; rfl⟩⟩)
                  · cases a3 : slt (r.refs[k - 1]'(by omega)) r.refs[k]
                    · exact .inr (.inr (.inl ⟨⟨rfl, h0, rfl⟩, ⟨HX.out (by rw [a1, a3, decide_eq_false (by omega : ¬ k = 0)]; rfl)⟩⟩))
                    · exact .inr (.inr (.inr ⟨⟨rfl, h0, rfl⟩, ⟨by rw [HS.out, HK.out, a1, a3]; simp⟩⟩))
              rcases hways with ⟨a1, HT⟩ | ⟨⟨a1, h0⟩, HT⟩ | ⟨⟨a1, h0, a3⟩, HT⟩ | ⟨⟨a1, h0, a3⟩, HT⟩
              · go_wp2_with (go_at_call 51; refine (recId _ _).mono ?_; rw [a1]; rintro e w' ⟨rfl, rfl⟩)
                go_ret
                exact ⟨by rw [H.out, HT.out]; simp, below_step HB2.out HW.out⟩
              · have g0 : decide (0 < k) = false := by simp; omega
                clear h0
                go_wp2_with (go_at_call 51; refine (recId _ _).mono ?_; rw [a1]; rintro e w' ⟨rfl, rfl⟩)
                refine ⟨⟨k + 1, by omega, by go_num, HT, HW⟩, by simp [intOf]; omega⟩
              all_goals
                obtain ⟨ad2, e2, _, y0⟩ := str_at (HG2.out.below HW.out) (k := k - 1) (by omega)
                cases e2
                have g0 : decide ((0 : Int) < (k : Int)) = true := by simp; omega
                have p2 : (0 : Int) ≤ (k : Int) - 1 := by omega
                have p3 : (k : Int) - 1 < (r.refs.length : Int) := by omega
                unfold slt at a3
                go_wp2_with (go_at_call 51; refine (recId _ _).mono ?_; rw [a1]; rintro e w' ⟨rfl, rfl⟩)
              · go_ret
                exact ⟨by rw [H.out, HT.out]; simp, below_step HB2.out HW.out⟩
              · refine ⟨⟨k + 1, by omega, by go_num, HT, HW⟩, by simp [intOf]; omega⟩
            · obtain rfl : k = r.refs.length := by omega
              have HK2 := Aside.mk (show refsOk r.refs = true by have := HK.out; rwa [List.take_length] at this)
              go_wp2_with fail
              go_ret
              exact ⟨by rw [H.out, HK1.out, HK2.out]; rfl, below_step HB2.out HW.out⟩
end Go.Proofs.WK
