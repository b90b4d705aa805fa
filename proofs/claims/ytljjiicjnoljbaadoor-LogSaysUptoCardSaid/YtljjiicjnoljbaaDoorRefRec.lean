/-
  wyref.Record (P16).
-/
import Derived.Test.YtljjiicjnoljbaaDoorRefId
import Derived.Test.YtljjiicjnoljbaaDoorRecC
namespace Go.Proofs.WK
open Go.RowKit Rp
theorem leB2 (a b : ByteArray) : (Op.bytesLess a.toList b.toList || a.toList == b.toList) = !slt b a := by
  rw [toList_beq]
  show (slt a b || decide (a = b)) = !slt b a
  rcases slt_tri a b with h | h | h
  · rw [h, slt_asymm h]; simp
  · subst h; simp [slt_irrefl]
  · rw [slt_asymm h, h]; simp [(slt_ne h).symm]
theorem slt_empty {s : ByteArray} (h : 1 ≤ s.size) : slt ⟨#[]⟩ s = true := by
  rw [slt, toList_data, toList_data, bl_eq]
  cases hs : s.data.toList with
  | nil => exfalso; have : s.data.toList.length = 0 := by rw [hs]; rfl
           rw [Array.length_toList] at this; have h2 : s.data.size = s.size := rfl; omega
  | cons a l => simp
/-- The text ahead of place k; ahead of all: the empty one. -/
def lastS (l : List ByteArray) : Nat → ByteArray
  | 0 => ⟨#[]⟩
  | k + 1 => l.getD k ⟨#[]⟩
theorem lastS_succ {l : List ByteArray} {k : Nat} (hk : k < l.length) : lastS l (k + 1) = l[k] := by
  show l.getD k ⟨#[]⟩ = l[k]
  simp [hk]
theorem last_flds {l : List Fld} {k : Nat} (hk : k < l.length) (h : idOk l[k].key = true) : (decide (k = 0) || slt (l[k - 1]'(by omega)).key l[k].key) = slt (lastS (l.map (·.key)) k) l[k].key := by
  cases k with
  | zero => rw [decide_eq_true rfl]; exact (slt_empty (idOk_size h).1).symm
  | succ k => rw [lastS_succ (by simp; omega)]; simp
theorem last_refs {l : List ByteArray} {k : Nat} (hk : k < l.length) (h : idOk l[k] = true) : (decide (k = 0) || slt (l[k - 1]'(by omega)) l[k]) = slt (lastS l k) l[k] := by
  cases k with
  | zero => rw [decide_eq_true rfl]; exact (slt_empty (idOk_size h).1).symm
  | succ k => rw [lastS_succ (by omega)]; simp
/-- What comes in. -/
def RecWf (r : Rec) : Prop := ∀ f ∈ r.fields, f.val.size ≤ 9223372036854775807
set_option maxHeartbeats 4000000 in
set_option maxRecDepth 100000 in
theorem refRecord (r : Rec) (A1 A2 : Option Addr) (c1 c2 : Nat) (ok ok' : Nat → Prop) (hwf : RecWf r) (w : World) (hf : fldR.Row w ok A1 r.fields) (hg : str.Row w ok' A2 r.refs) :
    Calls Tryd.prog 50 #[.agg #[.string r.id, .int .i64 r.cats, .slice A1 r.fields.length c1, .slice A2 r.refs.length c2]] w fun e w' => e = .returned (.int .i64 (recErr r)) ∧ Below w.heap.size w w' := by
  have hb1 : Below w.heap.size w (w.alloc (.cells (recC r A1 A2 c1 c2).toArray 35)) := (Below.refl _ _).alloc (Nat.le_refl _) _
  have HF := Aside.mk (hf.below hb1)
  have HG := Aside.mk (hg.below hb1)
  have HQ := Aside.mk (Bk.made w (recC r A1 A2 c1 c2) 35)
  have HB := Aside.mk hb1
  have HWF := Aside.mk hwf
  clear hf hg hb1 hwf
  cases hi : idOk r.id with
  | false =>
    have H := Aside.mk (recErr_id hi)
    go_enter Tryd.func50, Tryd.ntmps50
    go_wp2_with (go_at_call 44; refine (refId _ _).mono ?_; rw [hi]; rintro e w1 ⟨rfl, hb⟩; have HB1 := Aside.mk (below_step HB.out hb); clear hb)
    go_ret
    exact ⟨by rw [H.out]; rfl, HB1.out⟩
  | true =>
    cases hc : decide (0 ≤ r.cats ∧ r.cats ≤ 255) with
    | false =>
      have H := Aside.mk (recErr_cats hi (of_decide_eq_false hc))
      go_enter Tryd.func50, Tryd.ntmps50
      go_wp2_with (first | (go_at_call 44; refine (refId _ _).mono ?_; rw [hi]; rintro e w1 ⟨rfl, hb⟩; have HB1 := Aside.mk (below_step HB.out hb); have q1 := (HQ.out.below hb).four; clear hb) | (go_at_call 36; refine (refCats _ _).mono ?_; rw [hc]; rintro e w' ⟨rfl, rfl⟩))
      go_ret
      exact ⟨by rw [H.out]; rfl, HB1.out⟩
    | true =>
      rcases (by simp only [decide_eq_true_eq, decide_eq_false_iff_not]; omega : (decide ((6 : Int) < (r.fields.length : Int)) = true ∧ 6 < r.fields.length) ∨ ((decide ((6 : Int) < (r.fields.length : Int)) = false ∧ decide ((4 : Int) < (r.refs.length : Int)) = true) ∧ 4 < r.refs.length) ∨
        ((decide ((6 : Int) < (r.fields.length : Int)) = false ∧ decide ((4 : Int) < (r.refs.length : Int)) = false) ∧ r.fields.length ≤ 6 ∧ r.refs.length ≤ 4)) with ⟨g, h⟩ | ⟨g, h⟩ | ⟨⟨g1, g2⟩, h1, h2⟩
      case inl | inr.inl =>
        have H := Aside.mk (recErr_len hi (of_decide_eq_true hc) (by omega))
        clear h
        go_enter Tryd.func50, Tryd.ntmps50
        go_wp2_with (first | (go_at_call 44; refine (refId _ _).mono ?_; rw [hi]; rintro e w1 ⟨rfl, hb⟩; have HB1 := Aside.mk (below_step HB.out hb); have q1 := (HQ.out.below hb).four; clear hb) | (go_at_call 36; refine (refCats _ _).mono ?_; rw [hc]; rintro e w' ⟨rfl, rfl⟩))
        go_ret
        exact ⟨by rw [H.out]; rfl, HB1.out⟩
      have H := Aside.mk (recErr_end hi (of_decide_eq_true hc) (by omega))
      go_enter Tryd.func50, Tryd.ntmps50
      go_wp2_with (first | (go_at_call 44; refine (refId _ _).mono ?_; rw [hi]; rintro e w1 ⟨rfl, hb⟩; have HB1 := Aside.mk (below_step HB.out hb); have HQ1 := Aside.mk (HQ.out.below hb); have q1 := HQ1.out.four; have HF1 := Aside.mk (HF.out.below hb); have HG1 := Aside.mk (HG.out.below hb); clear hb HF HG HQ HB) | (go_at_call 36; refine (refCats _ _).mono ?_; rw [hc]; rintro e w' ⟨rfl, rfl⟩))
      rename World => w1
      clear hi hc
      go_loopw [3, 32] (fun x i wr => ∃ (k : Nat) (L : ByteArray), k ≤ r.fields.length ∧ i = .int .i64 k ∧ x = .string L ∧ Aside (L = lastS (r.fields.map (·.key)) k) ∧ Aside (fldsOk (r.fields.take k) = true) ∧ Aside (Below w1.heap.size w1 wr)) (fun _ i _ => r.fields.length - (intOf i).toNat)
      case atStart => exact ⟨0, _, Nat.zero_le _, rfl, rfl, ⟨rfl⟩, ⟨rfl⟩, ⟨Below.refl _ _⟩⟩
      case round =>
        clear q1
        obtain ⟨k, L, hk, rfl, rfl, HL, HK, HW⟩ := hrel
        have q0 := (HQ1.out.below HW.out).four
        by_cases hlt : k < r.fields.length
        · obtain ⟨ad, rfl, _, x0, x1⟩ := fld_at (HF1.out.below HW.out) hlt
          have HS := Aside.mk (flds_step hlt)
          have HX := Aside.mk (flds_bad hlt)
          have hal := HW.out.alloc HW.out.size (.cells #[.string r.fields[k].key, .string r.fields[k].val] 46)
          have HW2 := Aside.mk hal
          have HF2 := Aside.mk (Bk.made wr [.string r.fields[k].key, .string r.fields[k].val] 46)
          have hvs := HWF.out _ (List.getElem_mem hlt)
          have HV := Aside.mk (refValue r.fields[k].val hvs)
          have HL1 := Aside.mk (show r.fields[k].key = lastS (r.fields.map (·.key)) (k + 1) by rw [lastS_succ (by simpa using hlt)]; simp)
          clear hal q0 hvs
          have hways : (idOk r.fields[k].key = false ∧ Aside (fldsOk r.fields = false)) ∨ ((idOk r.fields[k].key = true ∧ valOk r.fields[k].val = false) ∧ Aside (fldsOk r.fields = false)) ∨
              ((idOk r.fields[k].key = true ∧ valOk r.fields[k].val = true ∧ (Op.bytesLess r.fields[k].key.toList L.toList || r.fields[k].key.toList == L.toList) = true) ∧ Aside (fldsOk r.fields = false)) ∨
              ((idOk r.fields[k].key = true ∧ valOk r.fields[k].val = true ∧ (Op.bytesLess r.fields[k].key.toList L.toList || r.fields[k].key.toList == L.toList) = false) ∧ Aside (fldsOk (r.fields.take (k + 1)) = true)) := by
            cases a1 : idOk r.fields[k].key
            · exact .inl ⟨rfl, ⟨HX.out (by unfold fldOk; rw [a1]; rfl)⟩⟩
            · cases a2 : valOk r.fields[k].val
              · exact .inr (.inl ⟨⟨rfl, rfl⟩, ⟨HX.out (by unfold fldOk; rw [a1, a2]; rfl)⟩⟩)
              · have hl := last_flds hlt a1
                rw [← HL.out] at hl
                rw [leB2]
                cases a3 : slt L r.fields[k].key
                · exact .inr (.inr (.inl ⟨⟨rfl, rfl, rfl⟩, ⟨HX.out (by rw [hl, a3, Bool.and_false])⟩⟩))
                · exact .inr (.inr (.inr ⟨⟨rfl, rfl, rfl⟩, ⟨by rw [HS.out, HK.out, hl, a3, fldOk, a1, a2]; rfl⟩⟩))
          rcases hways with ⟨a1, HT⟩ | ⟨⟨a1, a2⟩, HT⟩ | ⟨⟨a1, a2, a3⟩, HT⟩ | ⟨⟨a1, a2, a3⟩, HT⟩
          all_goals
            have q2 := HF2.out.two
            go_wp2_with (first
              | (go_at_call 44; refine (refId _ _).mono ?_; rw [a1]; rintro e w3 ⟨rfl, hb⟩; have HW3 := Aside.mk (below_step HW2.out hb); have HF3 := Aside.mk (HF2.out.below hb); have q3 := HF3.out.two; clear hb)
              | (go_at_call 45; refine (HV.out _).mono ?_; rw [a2]; rintro e w4 ⟨rfl, hb⟩; have HW4 := Aside.mk (below_step HW3.out hb); have q4 := (HF3.out.below hb).two; clear hb))
          · go_ret
            exact ⟨by rw [H.out, HT.out]; rfl, below_step HB1.out HW3.out⟩
          · go_ret
            exact ⟨by rw [H.out, HT.out]; rfl, below_step HB1.out HW4.out⟩
          · go_ret
            exact ⟨by rw [H.out, HT.out]; rfl, below_step HB1.out HW4.out⟩
          · refine ⟨⟨k + 1, _, by omega, by go_num, rfl, HL1, HT, HW4⟩, by simp [intOf]; omega⟩
        · obtain rfl : k = r.fields.length := by omega
          have HK1 := Aside.mk (show fldsOk r.fields = true by have := HK.out; rwa [List.take_length] at this)
          have HQ2 := Aside.mk (HQ1.out.below HW.out)
          have HG2 := Aside.mk (HG1.out.below HW.out)
          have HB2 := Aside.mk (below_step HB1.out HW.out)
          clear HQ1 HG1 HB1 HW HK HF1 HL
          go_wp2_with fail
          rename World => w5
          go_loopw [3, 58] (fun x i wr => ∃ (k : Nat) (L : ByteArray), k ≤ r.refs.length ∧ i = .int .i64 k ∧ x = .string L ∧ Aside (L = lastS r.refs k) ∧ Aside (refsOk (r.refs.take k) = true) ∧ Aside (Below w5.heap.size w5 wr)) (fun _ i _ => r.refs.length - (intOf i).toNat)
          case atStart => exact ⟨0, _, Nat.zero_le _, rfl, rfl, ⟨rfl⟩, ⟨rfl⟩, ⟨Below.refl _ _⟩⟩
          case round =>
            clear q0
            obtain ⟨k, L, hk, rfl, rfl, HL, HK, HW⟩ := hrel
            have q0 := (HQ2.out.below HW.out).four
            by_cases hlt : k < r.refs.length
            · obtain ⟨ad, rfl, _, x0⟩ := str_at (HG2.out.below HW.out) hlt
              have HS := Aside.mk (refs_step hlt)
              have HX := Aside.mk (refs_bad hlt)
              have HL1 := Aside.mk (show r.refs[k] = lastS r.refs (k + 1) by rw [lastS_succ hlt])
              have hways : (idOk r.refs[k] = false ∧ Aside (refsOk r.refs = false)) ∨ ((idOk r.refs[k] = true ∧ (Op.bytesLess r.refs[k].toList L.toList || r.refs[k].toList == L.toList) = true) ∧ Aside (refsOk r.refs = false)) ∨
                  ((idOk r.refs[k] = true ∧ (Op.bytesLess r.refs[k].toList L.toList || r.refs[k].toList == L.toList) = false) ∧ Aside (refsOk (r.refs.take (k + 1)) = true)) := by
                cases a1 : idOk r.refs[k]
                · exact .inl ⟨rfl, ⟨HX.out (by rw [a1]; rfl)⟩⟩
                · have hl := last_refs hlt a1
                  rw [← HL.out] at hl
                  rw [leB2]
                  cases a3 : slt L r.refs[k]
                  · exact .inr (.inl ⟨⟨rfl, rfl⟩, ⟨HX.out (by rw [hl, a3, Bool.and_false])⟩⟩)
                  · exact .inr (.inr ⟨⟨rfl, rfl⟩, ⟨by rw [HS.out, HK.out, hl, a3, a1]; rfl⟩⟩)
              rcases hways with ⟨a1, HT⟩ | ⟨⟨a1, a3⟩, HT⟩ | ⟨⟨a1, a3⟩, HT⟩
              all_goals
                go_wp2_with (go_at_call 44; refine (refId _ _).mono ?_; rw [a1]; rintro e w3 ⟨rfl, hb⟩; have HW3 := Aside.mk (below_step HW.out hb); clear hb)
              · go_ret
                exact ⟨by rw [H.out, HT.out]; simp, below_step HB2.out HW3.out⟩
              · go_ret
                exact ⟨by rw [H.out, HT.out]; simp, below_step HB2.out HW3.out⟩
              · refine ⟨⟨k + 1, _, by omega, by go_num, rfl, HL1, HT, HW3⟩, by simp [intOf]; omega⟩
            · obtain rfl : k = r.refs.length := by omega
              have HK2 := Aside.mk (show refsOk r.refs = true by have := HK.out; rwa [List.take_length] at this)
              go_wp2_with fail
              go_ret
              exact ⟨by rw [H.out, HK1.out, HK2.out]; rfl, below_step HB2.out HW.out⟩
end Go.Proofs.WK
