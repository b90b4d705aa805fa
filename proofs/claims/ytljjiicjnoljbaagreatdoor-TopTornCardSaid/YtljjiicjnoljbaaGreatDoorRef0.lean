/-
  wyref.Id, by the library's strings.Trim, and wyref.Value (P14, P15).
  wyref.Record (P16).
  wyref.Store (P21).
  wyref.Put, wyref.Cut (P22, P23), of a store that may be.
-/
import Derived.Shelf.Strings.SlTrimAscii
import Derived.Lib.ConvBytes
import Derived.Lib.AtoiErrMem
import Derived.Deep.RegionHeld3
import Derived.Test.YtljjiicjnoljbaaGreatDoorRec0
import Derived.Test.YtljjiicjnoljbaaGreatDoorShTrim
import Derived.Test.YtljjiicjnoljbaaGreatDoorSto0
import Derived.Test.YtljjiicjnoljbaaGreatDoorConcat
namespace Go.Proofs.WK
open Go.RowKit Rp
def idCs : ByteArray := ⟨#[97, 98, 99, 100, 101, 102, 103, 104, 105, 106, 107, 108, 109, 110, 111, 112, 113, 114, 115, 116, 117, 118, 119, 120, 121, 122, 48, 49, 50, 51, 52, 53, 54, 55, 56, 57]⟩
theorem idCs_has (b : UInt8) : idCs.data.toList.contains b = idB b := by
  have h : ∀ n : Fin 256, idCs.data.toList.contains (UInt8.ofNat n.val) = idB (UInt8.ofNat n.val) := by decide +kernel
  have := h ⟨b.toNat, b.toNat_lt⟩
  rwa [UInt8.ofNat_toNat] at this
theorem dropWhile_nil {p : UInt8 → Bool} : ∀ l : List UInt8, l.dropWhile p = [] ↔ l.all p = true
  | [] => by simp
  | b :: l => by
    cases h : p b
    · simp [List.dropWhile, h]
    · simp [List.dropWhile, h, dropWhile_nil l]
theorem mem_dropWhile {p : UInt8 → Bool} {b : UInt8} : ∀ {l : List UInt8}, b ∈ l → p b = false → b ∈ l.dropWhile p
  | c :: l, h, hb => by
    cases hc : p c
    · simpa [List.dropWhile, hc] using h
    · rcases List.mem_cons.1 h with e | h
      · subst e; rw [hb] at hc; cases hc
      · simpa [List.dropWhile, hc] using mem_dropWhile h hb
theorem trim_nil (l : List UInt8) : (Lib.trimS l idCs.data.toList == []) = l.all idB := by
  have hp : (fun b => idCs.data.toList.contains b) = idB := funext idCs_has
  unfold Lib.trimS Lib.trimLeftS Lib.trimRightS
  rw [hp]
  rw [Bool.eq_iff_iff, beq_iff_eq, dropWhile_nil, List.all_reverse, List.all_eq_true, List.all_eq_true]
  constructor
  · intro h b hb
    cases hx : idB b
    · have := h b (mem_dropWhile (List.mem_reverse.2 hb) hx)
      rw [hx] at this; cases this
    · rfl
  · intro h b hb
    exact h b (List.mem_reverse.1 (List.dropWhile_sublist _ |>.subset hb))
theorem trimC (s : ByteArray) (w : World) (hs : s.size ≤ 9223372036854775807) : Calls Tryz.prog 91 #[.string s, .string idCs] w fun e w' => ∃ r : ByteArray, e = .returned (.string r) ∧ r.toList.isEmpty = s.data.toList.all idB ∧ Below w.heap.size w w' := by
  have hcon := Any.strings_Trim_laid Tryz.layTrim (by kernel_rfl) s idCs w hs (by decide) (ascii_of_all (by decide))
  refine (show Calls Tryz.prog 91 _ _ _ from hcon).mono fun e w' h => ⟨_, h.1, ?_, h.2⟩
  rw [toList_data, ← trim_nil]
  show (Lib.trimS s.data.toList idCs.data.toList).isEmpty = _
  cases Lib.trimS s.data.toList idCs.data.toList <;> rfl
set_option maxHeartbeats 800000 in
set_option maxRecDepth 100000 in
theorem refId (s : ByteArray) (w : World) : Calls Tryz.prog 27 #[.string s] w fun e w' => e = .returned (.bool (idOk s)) ∧ Below w.heap.size w w' := by
  cases h : decide ((1 : Int) ≤ (s.size : Int) ∧ (s.size : Int) ≤ 8) with
  | false =>
    have H := Aside.mk (show idOk s = false by
      have := of_decide_eq_false h
      unfold idOk
      by_cases h1 : 1 ≤ s.size
      · rw [decide_eq_false (by omega : ¬ s.size ≤ 8)]; simp
      · rw [decide_eq_false h1]; rfl)
    go_enter Tryz.func27, Tryz.ntmps27
    go_wp2_with (go_at_call 90; refine (within _ _ _ _).mono ?_; rw [h]; rintro e w' ⟨rfl, rfl⟩)
    go_ret
    exact ⟨by rw [H.out]; rfl, Below.refl _ _⟩
  | true =>
    have h2 := of_decide_eq_true h
    have H := Aside.mk (show idOk s = s.data.toList.all idB by unfold idOk; rw [decide_eq_true (by omega : 1 ≤ s.size), decide_eq_true (by omega : s.size ≤ 8)]; rfl)
    have hs : s.size ≤ 9223372036854775807 := by omega
    have HC := Aside.mk (trimC s · hs)
    clear h2
    go_enter Tryz.func27, Tryz.ntmps27
    go_wp2_with (first | (go_at_call 90; refine (within _ _ _ _).mono ?_; rw [h]; rintro e w' ⟨rfl, rfl⟩) | (go_at_call 91; refine (HC.out _).mono ?_; rintro e w' ⟨r, rfl, hr, hb⟩; have HR := Aside.mk hr; have HB := Aside.mk hb; clear hr hb))
    go_ret
    exact ⟨by rw [H.out, ← HR.out]; rfl, HB.out⟩
set_option maxHeartbeats 800000 in
set_option maxRecDepth 100000 in
theorem refValue (s : ByteArray) (hs : s.size ≤ 9223372036854775807) (w : World) : Calls Tryz.prog 28 #[.string s] w fun e w' => e = .returned (.bool (valOk s)) ∧ Below w.heap.size w w' := by
  have hcv := Lib.run_convert_string_bytes (P := Tryz.prog) w 9 136 5 s (u := .string) Tryz.underlying9 Tryz.underlying136 Tryz.underlying5
  have HB : Aside (Below w.heap.size w (Lib.bytesWorld w 5 s)) := ⟨Lib.bytesWorld_below w _ s⟩
  have HC : Aside (∀ k (h : k < s.size), (Lib.bytesWorld w 5 s).cell? ⟨w.heap.size, k, none⟩ = some (.int .u8 s[k].toNat)) := ⟨fun k h => by
    have := Lib.bytesWorld_cell w 5 s k h
    rw [List.getD, List.getElem?_eq_getElem (by simpa using h)] at this
    exact this⟩
  generalize Lib.bytesWorld w 5 s = w5 at hcv HB HC
  generalize grownCap w s.size 0 5 = cp at hcv
  go_enter Tryz.func28, Tryz.ntmps28
  go_wp2_with fail
  clear hcv
  go_loopw [8] (fun i wr => ∃ k : Nat, k ≤ s.size ∧ i = .int .i64 k ∧ Aside ((s.data.toList.take k).all valB = true) ∧ w5 = wr) (fun i _ => s.size - (intOf i).toNat)
  case atStart => exact ⟨0, Nat.zero_le _, rfl, ⟨rfl⟩, rfl⟩
  case round =>
    obtain ⟨k, hk, rfl, HK, rfl⟩ := hrel
    by_cases hlt : k < s.size
    · have hS := Aside.mk (all_step valB hlt)
      have HF := Aside.mk (all_hit (p := valB) hlt)
      have hcell := HC.out k hlt
      have p0 : (0 : Int) ≤ (k : Int) := by omega
      have p1 : (k : Int) < (s.size : Int) := by omega
      have HD := Aside.mk (show valB s[k] = (decide (33 ≤ s[k].toNat) && decide (s[k].toNat ≤ 126) && decide (s[k].toNat ≠ 44) && decide (s[k].toNat ≠ 59) && decide (s[k].toNat ≠ 61)) from rfl)
      rcases val_ways s[k].toNat with ⟨h1, HC⟩ | ⟨h1, HC⟩ | ⟨h1, HC⟩ | ⟨h1, HC⟩ | ⟨h1, HC⟩ | ⟨h1, HC⟩
      case inr.inr.inr.inr.inr =>
        have HB1 := Aside.mk (show (s.data.toList.take (k + 1)).all valB = true by have := HC.out; rw [hS.out, HK.out, HD.out]; simp; omega)
        go_wp2_with fail
        refine ⟨⟨k + 1, by omega, by go_num, HB1, trivial⟩, by simp [intOf]; omega⟩
      all_goals
        have HB1 := Aside.mk (show valOk s = false by unfold valOk; rw [HF.out (by have := HC.out; rw [HD.out]; simp; omega), Bool.and_false])
        go_wp2_with fail
        go_ret
        exact ⟨by rw [HB1.out]; rfl, HB.out⟩
    · obtain rfl : k = s.size := by omega
      have HB1 := Aside.mk (show s.data.toList.all valB = true by have := HK.out; rwa [List.take_of_length_le (by simp)] at this)
      cases h12 : decide ((s.size : Int) < 13)
      all_goals
        have HE := Aside.mk (show valOk s = decide ((s.size : Int) < 13) by unfold valOk; rw [HB1.out, Bool.and_true, decide_eq_decide]; omega)
        rw [h12] at HE
        go_wp2_with fail
        go_ret
        exact ⟨by rw [HE.out]; rfl, HB.out⟩
end Go.Proofs.WK
namespace Go.Proofs.WK
open Go.RowKit Rp
theorem leB2 (a b : ByteArray) : (Op.bytesLess a.toList b.toList || a.toList == b.toList) = !slt b a := by
  rw [toList_beq]
  show (slt a b || decide (a = b)) = !slt b a
  rcases slt_tri a b with h | h | h
  · rw [h, slt_asymm h]; simp
  · subst h; simp [slt_irrefl]
  · rw [slt_asymm h, h]; simp [(slt_ne h).symm]
theorem slt_empty {s : ByteArray} (h : 1 ≤ s.size) : slt ⟨#[]⟩ s = true := by
  rw [slt, toList_data, toList_data, bl_eq]
  cases hs : s.data.toList with
  | nil => exfalso; have : s.data.toList.length = 0 := by rw [hs]; rfl
           rw [Array.length_toList] at this; have h2 : s.data.size = s.size := rfl; omega
  | cons a l => simp
/-- The text ahead of place k; ahead of all: the empty one. -/
def lastS (l : List ByteArray) : Nat → ByteArray
  | 0 => ⟨#[]⟩
  | k + 1 => l.getD k ⟨#[]⟩
theorem lastS_succ {l : List ByteArray} {k : Nat} (hk : k < l.length) : lastS l (k + 1) = l[k] := by
  show l.getD k ⟨#[]⟩ = l[k]
  simp [hk]
theorem last_flds {l : List Fld} {k : Nat} (hk : k < l.length) (h : idOk l[k].key = true) : (decide (k = 0) || slt (l[k - 1]'(by omega)).key l[k].key) = slt (lastS (l.map (·.key)) k) l[k].key := by
  cases k with
  | zero => rw [decide_eq_true rfl]; exact (slt_empty (idOk_size h).1).symm
  | succ k => rw [lastS_succ (by simp; omega)]; simp
theorem last_refs {l : List ByteArray} {k : Nat} (hk : k < l.length) (h : idOk l[k] = true) : (decide (k = 0) || slt (l[k - 1]'(by omega)) l[k]) = slt (lastS l k) l[k] := by
  cases k with
  | zero => rw [decide_eq_true rfl]; exact (slt_empty (idOk_size h).1).symm
  | succ k => rw [lastS_succ (by omega)]; simp
/-- What comes in. -/
def RecWf (r : Rec) : Prop := ∀ f ∈ r.fields, f.val.size ≤ 9223372036854775807
set_option maxHeartbeats 4000000 in
set_option maxRecDepth 100000 in
theorem refRecord (r : Rec) (A1 A2 : Option Addr) (c1 c2 : Nat) (ok ok' : Nat → Prop) (hwf : RecWf r) (w : World) (hf : fldR.Row w ok A1 r.fields) (hg : str.Row w ok' A2 r.refs) :
    Calls Tryz.prog 80 #[.agg #[.string r.id, .int .i64 r.cats, .slice A1 r.fields.length c1, .slice A2 r.refs.length c2]] w fun e w' => e = .returned (.int .i64 (recErr r)) ∧ Below w.heap.size w w' := by
  have hb1 : Below w.heap.size w (w.alloc (.cells (recC r A1 A2 c1 c2).toArray 36)) := (Below.refl _ _).alloc (Nat.le_refl _) _
  have HF := Aside.mk (hf.below hb1)
  have HG := Aside.mk (hg.below hb1)
  have HQ := Aside.mk (Bk.made w (recC r A1 A2 c1 c2) 36)
  have HB := Aside.mk hb1
  have HWF := Aside.mk hwf
  clear hf hg hb1 hwf
  cases hi : idOk r.id with
  | false =>
    have H := Aside.mk (recErr_id hi)
    go_enter Tryz.func80, Tryz.ntmps80
    go_wp2_with (go_at_call 27; refine (refId _ _).mono ?_; rw [hi]; rintro e w1 ⟨rfl, hb⟩; have HB1 := Aside.mk (below_step HB.out hb); clear hb)
    go_ret
    exact ⟨by rw [H.out]; rfl, HB1.out⟩
  | true =>
    cases hc : decide (0 ≤ r.cats ∧ r.cats ≤ 255) with
    | false =>
      have H := Aside.mk (recErr_cats hi (of_decide_eq_false hc))
      go_enter Tryz.func80, Tryz.ntmps80
      go_wp2_with (first | (go_at_call 27; refine (refId _ _).mono ?_; rw [hi]; rintro e w1 ⟨rfl, hb⟩; have HB1 := Aside.mk (below_step HB.out hb); have q1 := (HQ.out.below hb).four; clear hb) | (go_at_call 157; refine (refCats _ _).mono ?_; rw [hc]; rintro e w' ⟨rfl, rfl⟩))
      go_ret
      exact ⟨by rw [H.out]; rfl, HB1.out⟩
    | true =>
      rcases (by simp only [decide_eq_true_eq, decide_eq_false_iff_not]; omega : (decide ((6 : Int) < (r.fields.length : Int)) = true ∧ 6 < r.fields.length) ∨ ((decide ((6 : Int) < (r.fields.length : Int)) = false ∧ decide ((4 : Int) < (r.refs.length : Int)) = true) ∧ 4 < r.refs.length) ∨
        ((decide ((6 : Int) < (r.fields.length : Int)) = false ∧ decide ((4 : Int) < (r.refs.length : Int)) = false) ∧ r.fields.length ≤ 6 ∧ r.refs.length ≤ 4)) with ⟨g, h⟩ | ⟨g, h⟩ | ⟨⟨g1, g2⟩, h1, h2⟩
      case inl | inr.inl =>
        have H := Aside.mk (recErr_len hi (of_decide_eq_true hc) (by omega))
        clear h
        go_enter Tryz.func80, Tryz.ntmps80
        go_wp2_with (first | (go_at_call 27; refine (refId _ _).mono ?_; rw [hi]; rintro e w1 ⟨rfl, hb⟩; have HB1 := Aside.mk (below_step HB.out hb); have q1 := (HQ.out.below hb).four; clear hb) | (go_at_call 157; refine (refCats _ _).mono ?_; rw [hc]; rintro e w' ⟨rfl, rfl⟩))
        go_ret
        exact ⟨by rw [H.out]; rfl, HB1.out⟩
      have H := Aside.mk (recErr_end hi (of_decide_eq_true hc) (by omega))
      go_enter Tryz.func80, Tryz.ntmps80
      go_wp2_with (first | (go_at_call 27; refine (refId _ _).mono ?_; rw [hi]; rintro e w1 ⟨rfl, hb⟩; have HB1 := Aside.mk (below_step HB.out hb); have HQ1 := Aside.mk (HQ.out.below hb); have q1 := HQ1.out.four; have HF1 := Aside.mk (HF.out.below hb); have HG1 := Aside.mk (HG.out.below hb); clear hb HF HG HQ HB) | (go_at_call 157; refine (refCats _ _).mono ?_; rw [hc]; rintro e w' ⟨rfl, rfl⟩))
      rename World => w1
      clear hi hc
      go_loopw [3, 32] (fun x i wr => ∃ (k : Nat) (L : ByteArray), k ≤ r.fields.length ∧ i = .int .i64 k ∧ x = .string L ∧ Aside (L = lastS (r.fields.map (·.key)) k) ∧ Aside (fldsOk (r.fields.take k) = true) ∧ Aside (Below w1.heap.size w1 wr)) (fun _ i _ => r.fields.length - (intOf i).toNat)
      case atStart => exact ⟨0, _, Nat.zero_le _, rfl, rfl, ⟨rfl⟩, ⟨rfl⟩, ⟨Below.refl _ _⟩⟩
      case round =>
        clear q1
        obtain ⟨k, L, hk, rfl, rfl, HL, HK, HW⟩ := hrel
        have q0 := (HQ1.out.below HW.out).four
        by_cases hlt : k < r.fields.length
        · obtain ⟨ad, rfl, _, x0, x1⟩ := fld_at (HF1.out.below HW.out) hlt
          have HS := Aside.mk (flds_step hlt)
          have HX := Aside.mk (flds_bad hlt)
          have hal := HW.out.alloc HW.out.size (.cells #[.string r.fields[k].key, .string r.fields[k].val] 38)
          have HW2 := Aside.mk hal
          have HF2 := Aside.mk (Bk.made wr [.string r.fields[k].key, .string r.fields[k].val] 38)
          have hvs := HWF.out _ (List.getElem_mem hlt)
          have HV := Aside.mk (refValue r.fields[k].val hvs)
          have HL1 := Aside.mk (show r.fields[k].key = lastS (r.fields.map (·.key)) (k + 1) by rw [lastS_succ (by simpa using hlt)]; simp)
          clear hal q0 hvs
          have hways : (idOk r.fields[k].key = false ∧ Aside (fldsOk r.fields = false)) ∨ ((idOk r.fields[k].key = true ∧ valOk r.fields[k].val = false) ∧ Aside (fldsOk r.fields = false)) ∨
              ((idOk r.fields[k].key = true ∧ valOk r.fields[k].val = true ∧ (Op.bytesLess r.fields[k].key.toList L.toList || r.fields[k].key.toList == L.toList) = true) ∧ Aside (fldsOk r.fields = false)) ∨
              ((idOk r.fields[k].key = true ∧ valOk r.fields[k].val = true ∧ (Op.bytesLess r.fields[k].key.toList L.toList || r.fields[k].key.toList == L.toList) = false) ∧ Aside (fldsOk (r.fields.take (k + 1)) = true)) := by
            cases a1 : idOk r.fields[k].key
            · exact .inl ⟨rfl, ⟨HX.out (by unfold fldOk; rw [a1]; rfl)⟩⟩
            · cases a2 : valOk r.fields[k].val
              · exact .inr (.inl ⟨⟨rfl, rfl⟩, ⟨HX.out (by unfold fldOk; rw [a1, a2]; rfl)⟩⟩)
              · have hl := last_flds hlt a1
                rw [← HL.out] at hl
                rw [leB2]
                cases a3 : slt L r.fields[k].key
                · exact .inr (.inr (.inl ⟨⟨rfl, rfl, rfl⟩, ⟨HX.out (by rw [hl, a3, Bool.and_false])⟩⟩))
                · exact .inr (.inr (.inr ⟨⟨rfl, rfl, rfl⟩, ⟨by rw [HS.out, HK.out, hl, a3, fldOk, a1, a2]; rfl⟩⟩))
          rcases hways with ⟨a1, HT⟩ | ⟨⟨a1, a2⟩, HT⟩ | ⟨⟨a1, a2, a3⟩, HT⟩ | ⟨⟨a1, a2, a3⟩, HT⟩
          all_goals
            have q2 := HF2.out.two
            go_wp2_with (first
              | (go_at_call 27; refine (refId _ _).mono ?_; rw [a1]; rintro e w3 ⟨rfl, hb⟩; have HW3 := Aside.mk (below_step HW2.out hb); have HF3 := Aside.mk (HF2.out.below hb); have q3 := HF3.out.two; clear hb)
              | (go_at_call 28; refine (HV.out _).mono ?_; rw [a2]; rintro e w4 ⟨rfl, hb⟩; have HW4 := Aside.mk (below_step HW3.out hb); have q4 := (HF3.out.below hb).two; clear hb))
          · go_ret
            exact ⟨by rw [H.out, HT.out]; rfl, below_step HB1.out HW3.out⟩
          · go_ret
            exact ⟨by rw [H.out, HT.out]; rfl, below_step HB1.out HW4.out⟩
          · go_ret
            exact ⟨by rw [H.out, HT.out]; rfl, below_step HB1.out HW4.out⟩
          · refine ⟨⟨k + 1, _, by omega, by go_num, rfl, HL1, HT, HW4⟩, by simp [intOf]; omega⟩
        · obtain rfl : k = r.fields.length := by omega
          have HK1 := Aside.mk (show fldsOk r.fields = true by have := HK.out; rwa [List.take_length] at this)
          have HQ2 := Aside.mk (HQ1.out.below HW.out)
          have HG2 := Aside.mk (HG1.out.below HW.out)
          have HB2 := Aside.mk (below_step HB1.out HW.out)
          clear HQ1 HG1 HB1 HW HK HF1 HL
          go_wp2_with fail
          rename World => w5
          go_loopw [3, 58] (fun x i wr => ∃ (k : Nat) (L : ByteArray), k ≤ r.refs.length ∧ i = .int .i64 k ∧ x = .string L ∧ Aside (L = lastS r.refs k) ∧ Aside (refsOk (r.refs.take k) = true) ∧ Aside (Below w5.heap.size w5 wr)) (fun _ i _ => r.refs.length - (intOf i).toNat)
          case atStart => exact ⟨0, _, Nat.zero_le _, rfl, rfl, ⟨rfl⟩, ⟨rfl⟩, ⟨Below.refl _ _⟩⟩
          case round =>
            clear q0
            obtain ⟨k, L, hk, rfl, rfl, HL, HK, HW⟩ := hrel
            have q0 := (HQ2.out.below HW.out).four
            by_cases hlt : k < r.refs.length
            · obtain ⟨ad, rfl, _, x0⟩ := str_at (HG2.out.below HW.out) hlt
              have HS := Aside.mk (refs_step hlt)
              have HX := Aside.mk (refs_bad hlt)
              have HL1 := Aside.mk (show r.refs[k] = lastS r.refs (k + 1) by rw [lastS_succ hlt])
              have hways : (idOk r.refs[k] = false ∧ Aside (refsOk r.refs = false)) ∨ ((idOk r.refs[k] = true ∧ (Op.bytesLess r.refs[k].toList L.toList || r.refs[k].toList == L.toList) = true) ∧ Aside (refsOk r.refs = false)) ∨
                  ((idOk r.refs[k] = true ∧ (Op.bytesLess r.refs[k].toList L.toList || r.refs[k].toList == L.toList) = false) ∧ Aside (refsOk (r.refs.take (k + 1)) = true)) := by
                cases a1 : idOk r.refs[k]
                · exact .inl ⟨rfl, ⟨HX.out (by rw [a1]; rfl)⟩⟩
                · have hl := last_refs hlt a1
                  rw [← HL.out] at hl
                  rw [leB2]
                  cases a3 : slt L r.refs[k]
                  · exact .inr (.inl ⟨⟨rfl, rfl⟩, ⟨HX.out (by rw [hl, a3, Bool.and_false])⟩⟩)
                  · exact .inr (.inr ⟨⟨rfl, rfl⟩, ⟨by rw [HS.out, HK.out, hl, a3, a1]; rfl⟩⟩)
              rcases hways with ⟨a1, HT⟩ | ⟨⟨a1, a3⟩, HT⟩ | ⟨⟨a1, a3⟩, HT⟩
              all_goals
                go_wp2_with (go_at_call 27; refine (refId _ _).mono ?_; rw [a1]; rintro e w3 ⟨rfl, hb⟩; have HW3 := Aside.mk (below_step HW.out hb); clear hb)
              · go_ret
                exact ⟨by rw [H.out, HT.out]; simp, below_step HB2.out HW3.out⟩
              · go_ret
                exact ⟨by rw [H.out, HT.out]; simp, below_step HB2.out HW3.out⟩
              · refine ⟨⟨k + 1, _, by omega, by go_num, rfl, HL1, HT, HW3⟩, by simp [intOf]; omega⟩
            · obtain rfl : k = r.refs.length := by omega
              have HK2 := Aside.mk (show refsOk r.refs = true by have := HK.out; rwa [List.take_length] at this)
              go_wp2_with fail
              go_ret
              exact ⟨by rw [H.out, HK1.out, HK2.out]; rfl, below_step HB2.out HW.out⟩
end Go.Proofs.WK
namespace Go.Proofs.WK
open Go.RowKit Rp
/-- The boxes of a version and of its record. -/
abbrev Kb (w : World) (n m : Nat) (v : Ver) (A1 A2 : Option Addr) (c1 c2 : Nat) : Prop :=
  w.cell? { block := n, off := 4 } = some (.bool v.gone) ∧ w.cell? { block := m, off := 0 } = some (.string v.r.id) ∧ w.cell? { block := m, off := 1 } = some (.int .i64 v.r.cats) ∧
  w.cell? { block := m, off := 2 } = some (.slice A1 v.r.fields.length c1) ∧ w.cell? { block := m, off := 3 } = some (.slice A2 v.r.refs.length c2) ∧ Aside (Bk w n (verC v A1 A2 c1 c2) ∧ Bk w m (recC v.r A1 A2 c1 c2))
theorem Kb.of {w : World} {n m : Nat} {v : Ver} {A1 A2 : Option Addr} {c1 c2 : Nat} (h : Bk w n (verC v A1 A2 c1 c2)) (h' : Bk w m (recC v.r A1 A2 c1 c2)) : Kb w n m v A1 A2 c1 c2 := ⟨h.cell 4, h'.cell 0, h'.cell 1, h'.cell 2, h'.cell 3, ⟨h, h'⟩⟩
theorem Kb.al {w : World} {n m : Nat} {v : Ver} {A1 A2 : Option Addr} {c1 c2 : Nat} (h : Kb w n m v A1 A2 c1 c2) : Bk w n (verC v A1 A2 c1 c2) ∧ Bk w m (recC v.r A1 A2 c1 c2) := h.2.2.2.2.2.out
theorem Kb.step {w w' : World} {n m : Nat} {v : Ver} {A1 A2 : Option Addr} {c1 c2 : Nat} (h : Kb w n m v A1 A2 c1 c2) (hb : Below w.heap.size w w') : Kb w' n m v A1 A2 c1 c2 := .of (h.al.1.below hb) (h.al.2.below hb)
/-- Four ways of what is gone, as the reference asks. -/
theorem gone_ways2 (l : List Ver) (v : Ver) (k : Nat) (hk : k ≤ l.length) :
    (v.gone = false ∧ Aside (goneBad l v k = false)) ∨ ((v.gone = true ∧ decide ((0 : Int) < (v.r.fields.length : Int) + (v.r.refs.length : Int)) = true) ∧ Aside (goneBad l v k = true)) ∨
    ((v.gone = true ∧ decide ((0 : Int) < (v.r.fields.length : Int) + (v.r.refs.length : Int)) = false ∧ decide (livesI (l.take k) v.r.id v.r.cats < 0) = true) ∧ Aside (goneBad l v k = true)) ∨
    ((v.gone = true ∧ decide ((0 : Int) < (v.r.fields.length : Int) + (v.r.refs.length : Int)) = false ∧ decide (livesI (l.take k) v.r.id v.r.cats < 0) = false) ∧ Aside (goneBad l v k = false)) := by
  unfold goneBad
  rw [livesI_take hk]
  cases hg : v.gone
  · exact .inl ⟨rfl, ⟨rfl⟩⟩
  · by_cases h1 : (0 : Int) < (v.r.fields.length : Int) + (v.r.refs.length : Int)
    · refine .inr (.inl ⟨⟨rfl, decide_eq_true h1⟩, ⟨?_⟩⟩)
      by_cases h2 : 0 < v.r.fields.length
      · rw [decide_eq_true h2]; rfl
      · rw [decide_eq_true (by omega : 0 < v.r.refs.length)]; simp
    · rw [decide_eq_false (by omega : ¬ 0 < v.r.fields.length), decide_eq_false (by omega : ¬ 0 < v.r.refs.length), decide_eq_false h1]
      cases decide (livesK l v.r.id v.r.cats k < 0)
      · exact .inr (.inr (.inr ⟨⟨rfl, rfl, rfl⟩, ⟨rfl⟩⟩))
      · exact .inr (.inr (.inl ⟨⟨rfl, rfl, rfl⟩, ⟨rfl⟩⟩))
def StoWf (l : List Ver) : Prop := ∀ v ∈ l, RecWf v.r
set_option maxHeartbeats 4000000 in
set_option maxRecDepth 100000 in
theorem refStore (A : Option Addr) (c : Nat) (l : List Ver) (ok : Nat → Prop) (hwf : StoWf l) (w : World) (hr : verR.Row w ok A l) (hc : l.length ≤ c) :
    Calls Tryz.prog 23 #[.slice A l.length c] w fun e w' => e = .returned (.int .i64 (storeErr l)) ∧ Below w.heap.size w w' := by
  have hm := hr.1
  have HR := Aside.mk hr
  have HWF := Aside.mk hwf
  clear hr hwf
  by_cases h5 : 5120 < l.length
  · have H := Aside.mk (show storeErr l = 2 from if_pos h5)
    have g5 : decide ((5120 : Int) < (l.length : Int)) = true := by simp; omega
    clear h5
    go_enter Tryz.func23, Tryz.ntmps23
    go_wp2_with fail
    go_ret
    exact ⟨by rw [H.out]; rfl, Below.refl _ _⟩
  · have H5 := Aside.mk h5
    have g5 : decide ((5120 : Int) < (l.length : Int)) = false := by simp; omega
    have hlen : l.length ≤ 5120 := by omega
    clear h5
    go_enter Tryz.func23, Tryz.ntmps23
    go_wp2_with fail
    go_loopw [12] (fun i wr => ∃ k : Nat, k ≤ l.length ∧ i = .int .i64 k ∧ Aside (firstI (verErr l) k = 0) ∧ Aside (Below w.heap.size w wr)) (fun i _ => l.length - (intOf i).toNat)
    case atStart => exact ⟨0, Nat.zero_le _, rfl, ⟨rfl⟩, ⟨Below.refl _ _⟩⟩
    case round =>
      obtain ⟨k, hk, rfl, HK, HB⟩ := hrel
      by_cases hlt : k < l.length
      · obtain ⟨ad, A1, c1, A2, c2, rfl, _, x0, x1, x2, x3, x4, l1, l2, r1, r2⟩ := ver_at (HR.out.below HB.out) hlt
        have hal : Below wr.heap.size wr ((wr.alloc (.cells #[.string l[k].r.id, .int .i64 l[k].r.cats, .slice A1 l[k].r.fields.length c1, .slice A2 l[k].r.refs.length c2, .bool l[k].gone] 63)).alloc (.cells #[.string l[k].r.id, .int .i64 l[k].r.cats, .slice A1 l[k].r.fields.length c1, .slice A2 l[k].r.refs.length c2] 36)) := ((Below.refl _ _).alloc (Nat.le_refl _) _).alloc (by simp) _
        have HQ := Aside.mk ((Bk.made wr (verC l[k] A1 A2 c1 c2) 63).alloc (.cells (recC l[k].r A1 A2 c1 c2).toArray 36))
        have HP := Aside.mk (Bk.made (wr.alloc (.cells (verC l[k] A1 A2 c1 c2).toArray 63)) (recC l[k].r A1 A2 c1 c2) 36)
        rw [show (wr.alloc (.cells (verC l[k] A1 A2 c1 c2).toArray 63)).heap.size = wr.heap.size + 1 from by simp] at HP
        have HB1 := Aside.mk (below_step HB.out hal)
        have R1 := Aside.mk (r1.below hal)
        have R2 := Aside.mk (r2.below hal)
        have HV := Aside.mk (verErr_at hlt)
        have HW1 := Aside.mk (HWF.out _ (List.getElem_mem hlt))
        clear hal r1 r2
        by_cases he : recErr l[k].r = 0
        · have hrec := rec_ok he
          have HE := Aside.mk he
          have e1 : IntKind.i64.wrap ((l[k].r.fields.length : Int) + (l[k].r.refs.length : Int)) = (l[k].r.fields.length : Int) + (l[k].r.refs.length : Int) := by rw [IntKind.wrap_i64]; omega
          clear hrec he
          have p0 : (0 : Int) ≤ (k : Int) := by omega
          have p1 : (k : Int) ≤ (c : Int) := by omega
          have p2 : (0 : Int) ≤ (k : Int) + 1 := by omega
          have p3 : (k : Int) + 1 ≤ (c : Int) := by omega
          have e2 : IntKind.i64.wrap ((k : Int) + 1) = (k : Int) + 1 := by rw [IntKind.wrap_i64]; omega
          have e3 : ((k : Int) + 1).toNat = k + 1 := by omega
          have HT := Aside.mk (show (l.take k).length = k by simp; omega)
          have HT1 := Aside.mk (show (l.take (k + 1)).length = k + 1 by simp; omega)
          go_wp2_with fail
          refine (refRecord l[k].r A1 A2 c1 c2 _ _ HW1.out _ R1.out R2.out).mono ?_
          rw [HE.out]
          rintro e w2 ⟨rfl, hb⟩
          have HX2 := Aside.mk (Kb.of (HQ.out.below hb) (HP.out.below hb))
          have HB2 := Aside.mk (below_step HB1.out hb)
          clear hb HQ HP HB1 R1 R2
          go_wp2_with fail
          generalize wr.heap.size = g1 at HX2 ⊢
          have q0 := HX2.out
          by_cases h20 : 20 < sameN (l.take (k + 1)) l[k].r.cats
          · have HX := Aside.mk (store_hit H5.out hlt HK.out (x := 2) (by decide) (by rw [HV.out, if_neg (by simpa using HE.out), if_pos h20]))
            have g20 : decide ((20 : Int) < ((sameN (l.take (k + 1)) l[k].r.cats : Nat) : Int)) = true := by simp; omega
            clear h20
            go_region_held3 (fun w' => w'.cell? { block := g1, off := 4 } = some (.bool l[k].gone) ∧ w'.cell? { block := g1 + 1, off := 0 } = some (.string l[k].r.id) ∧ w'.cell? { block := g1 + 1, off := 1 } = some (.int .i64 l[k].r.cats) ∧
                w'.cell? { block := g1 + 1, off := 2 } = some (.slice A1 l[k].r.fields.length c1) ∧ w'.cell? { block := g1 + 1, off := 3 } = some (.slice A2 l[k].r.refs.length c2) ∧ Aside (Bk w' g1 (verC l[k] A1 A2 c1 c2) ∧ Bk w' (g1 + 1) (recC l[k].r A1 A2 c1 c2)))
              (first | exact HX2.out | assumption)
              (first
               | (go_at_call 81; refine (refSame (some ad) (k + 1) c (l.take (k + 1)) l[k].r.cats ok _ ((HR.out.below (below_drewN HB2.out 1)).take (k + 1)) HT1.out).mono ?_; rintro e w3 ⟨rfl, hb⟩
                  have hb3 := below_step (below_drewN (Below.refl w2.heap.size w2) 1) hb
                  have hx := Kb.step HX2.out hb3
                  have HX3 := Aside.mk hx
                  have HB3 := Aside.mk (below_step HB2.out hb3)
                  clear hb hb3))
            go_wp2
            go_ret
            exact ⟨by rw [HX.out]; rfl, HB3.out⟩
          · have g20 : decide ((20 : Int) < ((sameN (l.take (k + 1)) l[k].r.cats : Nat) : Int)) = false := by simp; omega
            have HW := Aside.mk (show verErr l k = if goneBad l l[k] k = true then 3 else 0 by rw [HV.out, if_neg (by simpa using HE.out), if_neg h20])
            have HG := Aside.mk (gone_ways2 l l[k] k (Nat.le_of_lt hlt))
            clear h20
            go_region_held3 (fun w' => w'.cell? { block := g1, off := 4 } = some (.bool l[k].gone) ∧ w'.cell? { block := g1 + 1, off := 0 } = some (.string l[k].r.id) ∧ w'.cell? { block := g1 + 1, off := 1 } = some (.int .i64 l[k].r.cats) ∧
                w'.cell? { block := g1 + 1, off := 2 } = some (.slice A1 l[k].r.fields.length c1) ∧ w'.cell? { block := g1 + 1, off := 3 } = some (.slice A2 l[k].r.refs.length c2) ∧ Aside (Bk w' g1 (verC l[k] A1 A2 c1 c2) ∧ Bk w' (g1 + 1) (recC l[k].r A1 A2 c1 c2)))
              (first | exact HX2.out | assumption)
              (first
               | (go_at_call 81; refine (refSame (some ad) (k + 1) c (l.take (k + 1)) l[k].r.cats ok _ ((HR.out.below (below_drewN HB2.out 1)).take (k + 1)) HT1.out).mono ?_; rintro e w3 ⟨rfl, hb⟩
                  have hb3 := below_step (below_drewN (Below.refl w2.heap.size w2) 1) hb
                  have hx := Kb.step HX2.out hb3
                  have HX3 := Aside.mk hx
                  have HB3 := Aside.mk (below_step HB2.out hb3)
                  clear hb hb3))
            go_wp2
            clear hx q0
            rcases HG.out with ⟨a1, HX⟩ | ⟨⟨a1, a2⟩, HX⟩ | ⟨⟨a1, a2, a3⟩, HX⟩ | ⟨⟨a1, a2, a3⟩, HX⟩
            · have q0 := HX3.out
              unfold Kb at q0
              rw [a1] at q0
              go_quiet (fail)
              go_wp2
              refine ⟨⟨k + 1, by omega, by go_num, ⟨firstI_step HK.out (by rw [HW.out, HX.out]; rfl)⟩, ⟨below_drewN HB3.out _⟩⟩, by simp [intOf]; omega⟩
            · have q0 := HX3.out
              unfold Kb at q0
              rw [a1] at q0
              have HY := Aside.mk (store_hit H5.out hlt HK.out (x := 3) (by decide) (by rw [HW.out, HX.out]; rfl))
              go_quiet (fail)
              go_wp2
              go_ret
              exact ⟨by rw [HY.out]; rfl, below_drewN HB3.out _⟩
            all_goals
              have q0 := HX3.out
              unfold Kb at q0
              rw [a1] at q0
              go_region_held3 (fun w' => w'.cell? { block := g1, off := 4 } = some (.bool true) ∧ w'.cell? { block := g1 + 1, off := 0 } = some (.string l[k].r.id) ∧ w'.cell? { block := g1 + 1, off := 1 } = some (.int .i64 l[k].r.cats) ∧
                w'.cell? { block := g1 + 1, off := 2 } = some (.slice A1 l[k].r.fields.length c1) ∧ w'.cell? { block := g1 + 1, off := 3 } = some (.slice A2 l[k].r.refs.length c2) ∧ Aside (Bk w' g1 (verC l[k] A1 A2 c1 c2) ∧ Bk w' (g1 + 1) (recC l[k].r A1 A2 c1 c2)))
                (first | exact q0 | assumption)
                (first
                 | (go_at_call 82; refine (refLives (some ad) k c (l.take k) l[k].r.id l[k].r.cats ok _ ((HR.out.below (below_drewN HB3.out 1)).take k) HT.out).mono ?_; rintro e w4 ⟨rfl, hb⟩
                    have hb4 := below_step (below_drewN (Below.refl w3.heap.size w3) 1) hb
                    have hx := Kb.step HX3.out hb4
                    unfold Kb at hx
                    rw [a1] at hx
                    have HB4 := Aside.mk (below_step HB3.out hb4)
                    clear hb hb4))
              go_wp2
            · have HY := Aside.mk (store_hit H5.out hlt HK.out (x := 3) (by decide) (by rw [HW.out, HX.out]; rfl))
              go_ret
              exact ⟨by rw [HY.out]; rfl, HB4.out⟩
            · refine ⟨⟨k + 1, by omega, by go_num, ⟨firstI_step HK.out (by rw [HW.out, HX.out]; rfl)⟩, HB4⟩, by simp [intOf]; omega⟩
        · have HX := Aside.mk (store_hit H5.out hlt HK.out he (by rw [HV.out, if_pos he]))
          have hb0 : (recErr l[k].r != 0) = true := by simp [he]
          clear he
          go_wp2_with (go_at_call 80; refine (refRecord l[k].r A1 A2 c1 c2 _ _ HW1.out _ R1.out R2.out).mono ?_; rintro e w2 ⟨rfl, hb⟩; have HB2 := Aside.mk (below_step HB1.out hb); clear hb)
          go_ret
          exact ⟨by rw [HX.out]; rfl, HB2.out⟩
      · obtain rfl : k = l.length := by omega
        have HX := Aside.mk (show storeErr l = 0 by rw [storeErr, if_neg H5.out, HK.out])
        go_wp2_with fail
        go_ret
        exact ⟨by rw [HX.out]; rfl, HB.out⟩
end Go.Proofs.WK
namespace Go.Proofs.WK
open Go.RowKit Rp
theorem one_ver {w : World} {Z : Nat → Prop} {x : Ver} {cl : List Value} (T : TypeId) (hp : verR.K w Z x cl) (hz : Z w.heap.size) : verR.Sl (w.alloc (.cells cl.toArray T)) Z (.slice (some ⟨w.heap.size, 0, none⟩) 1 1) [x] := by
  have h := Own.lit verR T w 0 Z (Nat.zero_le _) (xs := [x]) (inner := cl) (Reps.snoc (ps := []) (cs := []) ⟨rfl, fun j p hp => by simp at hp⟩ hp (verR.len hp)) (by simp)
  exact h.sl.mono fun k hk _ => hk.elim id fun e => by
    have e2 : w.heap.size = k := by simpa [Value.ownBlock] using e
    exact e2 ▸ hz
theorem two_parts {w : World} {Z : Nat → Prop} {va vb : Value} {l m : List Ver} (T : TypeId) (ha : verR.Sl w Z va l) (hb : verR.Sl w Z vb m) (hz : Z w.heap.size) : (slice verR).Row (w.alloc (.cells #[va, vb] T)) Z (some ⟨w.heap.size, 0, none⟩) [l, m] := by
  have h := Own.lit (slice verR) T w 0 Z (Nat.zero_le _) (xs := [l, m]) (inner := [va, vb]) (Reps.snoc (ps := [l]) (cs := [va]) (Reps.snoc (ps := []) (cs := []) ⟨rfl, fun j p hp => by simp at hp⟩ ⟨va, rfl, ha⟩ rfl) ⟨vb, rfl, hb⟩ rfl) (by simp)
  exact h.row.2.2.mono fun k hk _ => hk.elim id fun e => by
    have e2 : w.heap.size = k := by simpa [Value.ownBlock] using e
    exact e2 ▸ hz
theorem flat_two (l : List Ver) (x : Ver) : [l, [x]].flatten = l ++ [x] := by simp
theorem sum_two (l : List Ver) (x : Ver) : sumL [l, [x]] = l.length + 1 := by simp [sumL]
set_option maxHeartbeats 4000000 in
set_option maxRecDepth 100000 in
theorem refPutZ (A : Option Addr) (c : Nat) (l : List Ver) (r : Rec) (A1 A2 : Option Addr) (c1 c2 : Nat) (ok ok1 ok2 Z : Nat → Prop) (w : World) (hz0 : ∀ k, w.heap.size ≤ k → Z k) (hz1 : ∀ k, ok k → k < w.heap.size → Z k) (hz2 : ∀ k, ok1 k → k < w.heap.size → Z k) (hz3 : ∀ k, ok2 k → k < w.heap.size → Z k) (h1 : storeErr l = 0) (hwf : RecWf r) (hr : verR.Row w ok A l) (hc : l.length ≤ c)
    (hf : fldR.Row w ok1 A1 r.fields) (hc1 : r.fields.length ≤ c1) (hg : str.Row w ok2 A2 r.refs) (hc2 : r.refs.length ≤ c2) :
    Calls Tryz.prog 102 #[.slice A l.length c, .agg #[.string r.id, .int .i64 r.cats, .slice A1 r.fields.length c1, .slice A2 r.refs.length c2]] w fun e w' => ∃ v, e = .returned (.tuple #[v, .int .i64 (putErr l r)]) ∧
      verR.Sl w' Z v (putV l r) ∧ Below w.heap.size w w' := by
  have hb1 : Below w.heap.size w (w.alloc (.cells (recC r A1 A2 c1 c2).toArray 36)) := (Below.refl _ _).alloc (Nat.le_refl _) _
  have HR := Aside.mk ((hr.mono hz1).below hb1)
  have HF := Aside.mk ((hf.mono hz2).below hb1)
  have HG := Aside.mk ((hg.mono hz3).below hb1)
  have HZ := Aside.mk hz0
  have HQ := Aside.mk (Bk.made w (recC r A1 A2 c1 c2) 36)
  have HB := Aside.mk hb1
  have HWF := Aside.mk hwf
  have hlen := (store_ok h1).1
  have e1 : putErr l r = if recErr r ≠ 0 then recErr r else if 20 ≤ sameN l r.cats then 2 else 0 := by rw [putErr, if_neg (by simpa using h1)]
  clear hr hf hg hb1 hwf h1 hz0 hz1 hz2 hz3
  by_cases h2 : recErr r = 0
  · have e2 : putErr l r = if 20 ≤ sameN l r.cats then 2 else 0 := by rw [e1, if_neg (by simpa using h2)]
    have H2 := Aside.mk h2
    clear e1 h2
    by_cases h3 : 20 ≤ sameN l r.cats
    · have e3 : putErr l r = 2 := by rw [e2, if_pos h3]
      have e4 : putV l r = [] := by rw [putV, e3]; rfl
      have g3 : decide ((20 : Int) ≤ ((sameN l r.cats : Nat) : Int)) = true := by simp; omega
      rw [e3, e4]
      clear e2 e3 e4 h3
      go_enter Tryz.func102, Tryz.ntmps102
      go_wp2_with fail
      refine (refRecord r _ _ _ _ _ _ HWF.out _ HF.out HG.out).mono ?_
      rw [H2.out]
      rintro e w2 ⟨rfl, hb⟩
      have q1 := (HQ.out.below hb).four
      have HR2 := Aside.mk (HR.out.below hb)
      have HB2 := Aside.mk (below_step HB.out hb)
      clear hb
      go_wp2_with fail
      refine (refSame _ _ _ l r.cats _ _ HR2.out rfl).mono ?_
      rintro e w3 ⟨rfl, hb⟩
      have HB3 := Aside.mk (below_step HB2.out hb)
      clear hb
      go_wp2_with fail
      go_ret2
      exact ⟨_, rfl, Sl.nil _ _ _, HB3.out⟩
    · have e3 : putErr l r = 0 := by rw [e2, if_neg h3]
      have e4 : putV l r = l ++ [⟨r, false⟩] := by rw [putV, if_pos e3]
      have g3 : decide ((20 : Int) ≤ ((sameN l r.cats : Nat) : Int)) = false := by simp; omega
      rw [e3, e4]
      clear e2 e3 e4 h3
      go_enter Tryz.func102, Tryz.ntmps102
      go_wp2_with fail
      refine (refRecord r _ _ _ _ _ _ HWF.out _ HF.out HG.out).mono ?_
      rw [H2.out]
      rintro e w2 ⟨rfl, hb⟩
      have q1 := (HQ.out.below hb).four
      have HF2 := Aside.mk (HF.out.below hb)
      have HG2 := Aside.mk (HG.out.below hb)
      have HQ2 := Aside.mk (HQ.out.below hb)
      have HR2 := Aside.mk (HR.out.below hb)
      have HB2 := Aside.mk (below_step HB.out hb)
      clear hb
      go_wp2_with fail
      refine (refSame _ _ _ l r.cats _ _ HR2.out rfl).mono ?_
      rintro e w3 ⟨rfl, hb⟩
      clear q1
      have q1 := (HQ2.out.below hb).four
      have HF3 := Aside.mk (HF2.out.below hb)
      have HG3 := Aside.mk (HG2.out.below hb)
      have HR3 := Aside.mk (HR2.out.below hb)
      have HB3 := Aside.mk (below_step HB2.out hb)
      clear hb
      have HX := Aside.mk (one_ver (w := w3) (Z := Z) (x := ⟨r, false⟩) (cl := [.string r.id, .int .i64 r.cats, .slice A1 r.fields.length c1, .slice A2 r.refs.length c2, .bool false]) 63 (verK.2 ⟨_, _, rfl, Sl.of HF3.out hc1, Sl.of HG3.out hc2⟩) (HZ.out _ HB3.out.size))
      have HL := Aside.mk (two_parts 42 (Sl.of (HR3.out.below ((Below.refl _ _).alloc (Nat.le_refl _) _)) hc) HX.out (HZ.out _ (Nat.le_trans HB3.out.size (by simp))))
      have HB4 := Aside.mk (HB3.out.trans ((((Below.refl w3.heap.size w3).alloc (Nat.le_refl _) (.cells #[.string r.id, .int .i64 r.cats, .slice A1 r.fields.length c1, .slice A2 r.refs.length c2, .bool false] 63)).alloc (by simp) (.cells #[.slice A l.length c, .slice (some ⟨w3.heap.size, 0, none⟩) 1 1] 42)).mono HB3.out.size))
      rw [show (w3.alloc (.cells [Value.string r.id, .int .i64 r.cats, .slice A1 r.fields.length c1, .slice A2 r.refs.length c2, .bool false].toArray 63)).heap.size = w3.heap.size + 1 from by simp] at HL
      go_wp2_with (go_at_call 174; refine (concatV _ 2 2 [l, [⟨r, false⟩]] _ _ HL.out rfl (by rw [sum_two]; omega) (by rw [sum_two]; omega) (by omega)).mono ?_; rintro e w5 ⟨v5, rfl, ho, hb⟩; have HO5 := Aside.mk ho; have HB5 := Aside.mk (below_step HB4.out hb); clear ho hb)
      go_ret2
      exact ⟨_, rfl, by rw [← flat_two]; exact HO5.out.sl.mono fun k hk _ => hk.elim (fun h => h.1) fun e => HZ.out k (Nat.le_trans HB4.out.size (HO5.out.lt k e).1), HB5.out⟩
  · have e3 : putErr l r = recErr r := by rw [e1, if_pos h2]
    have e4 : putV l r = [] := by rw [putV, e3, if_neg h2]
    have g3 : (recErr r != 0) = true := by simp [h2]
    rw [e3, e4]
    clear e1 e3 e4 h2
    go_enter Tryz.func102, Tryz.ntmps102
    go_wp2_with fail
    refine (refRecord r _ _ _ _ _ _ HWF.out _ HF.out HG.out).mono ?_
    rintro e w2 ⟨rfl, hb⟩
    have HB2 := Aside.mk (below_step HB.out hb)
    clear hb
    go_wp2_with fail
    go_ret2
    exact ⟨_, rfl, Sl.nil _ _ _, HB2.out⟩
theorem refPut (A : Option Addr) (c : Nat) (l : List Ver) (r : Rec) (A1 A2 : Option Addr) (c1 c2 : Nat) (ok ok1 ok2 : Nat → Prop) (w : World) (h1 : storeErr l = 0) (hwf : RecWf r) (hr : verR.Row w ok A l) (hc : l.length ≤ c)
    (hf : fldR.Row w ok1 A1 r.fields) (hc1 : r.fields.length ≤ c1) (hg : str.Row w ok2 A2 r.refs) (hc2 : r.refs.length ≤ c2) :
    Calls Tryz.prog 102 #[.slice A l.length c, .agg #[.string r.id, .int .i64 r.cats, .slice A1 r.fields.length c1, .slice A2 r.refs.length c2]] w fun e w' => ∃ v, e = .returned (.tuple #[v, .int .i64 (putErr l r)]) ∧
      verR.Sl w' (fun _ => True) v (putV l r) ∧ Below w.heap.size w w' :=
  refPutZ A c l r A1 A2 c1 c2 ok ok1 ok2 (fun _ => True) w (fun _ _ => trivial) (fun _ _ _ => trivial) (fun _ _ _ => trivial) (fun _ _ _ => trivial) h1 hwf hr hc hf hc1 hg hc2
theorem lives_dec (l : List Ver) (id : ByteArray) (c : Int) : decide (livesI l id c < 0) = !livesB l id c := by
  unfold livesB
  by_cases h : livesI l id c < 0
  · rw [decide_eq_true h, decide_eq_false (by omega)]; rfl
  · rw [decide_eq_false h, decide_eq_true (by omega)]; rfl
set_option maxHeartbeats 4000000 in
set_option maxRecDepth 100000 in
theorem refCutZ (A : Option Addr) (c : Nat) (l : List Ver) (id : ByteArray) (cats : Int) (ok Z : Nat → Prop) (w : World) (hz0 : ∀ k, w.heap.size ≤ k → Z k) (hz1 : ∀ k, ok k → k < w.heap.size → Z k) (h1 : storeErr l = 0) (hr : verR.Row w ok A l) (hc : l.length ≤ c) :
    Calls Tryz.prog 103 #[.slice A l.length c, .string id, .int .i64 cats] w fun e w' => ∃ v, e = .returned (.tuple #[v, .int .i64 (cutErr l id cats)]) ∧
      verR.Sl w' Z v (cutV l id cats) ∧ Below w.heap.size w w' := by
  have HR := Aside.mk (hr.mono hz1)
  have HZ := Aside.mk hz0
  have hlen := (store_ok h1).1
  have hs := store_same h1 cats
  have HD := Aside.mk (lives_dec l id cats)
  clear hr hz0 hz1
  have hd20 : decide ((20 : Int) ≤ ((sameN l cats : Nat) : Int)) = (((sameN l cats : Nat) : Int) == 20) := by
    rw [Bool.eq_iff_iff]; simp; omega
  rcases cut_ways l id cats h1 with ⟨a1, HX⟩ | ⟨⟨a1, a2⟩, HX⟩ | ⟨⟨a1, a2, a3⟩, HX⟩ | ⟨⟨a1, a2, a3, a4⟩, HX⟩ | ⟨⟨a1, a2, a3, a4⟩, HX⟩
  case inr.inr.inr.inr =>
    rw [HX.out.1, HX.out.2]
    rw [a3] at HD
    rw [a4] at hd20
    have hdl : decide (livesI l id cats < 0) = false := HD.out
    clear h1 hs a4
    go_enter Tryz.func103, Tryz.ntmps103
    go_wp2_with fail
    refine (refId id _).mono ?_
    rw [a1]
    rintro e w1 ⟨rfl, hb⟩
    have HR1 := Aside.mk (HR.out.below hb)
    have HB1 := Aside.mk hb
    clear HR hb
    go_wp2_with (go_at_call 157; refine (refCats _ _).mono ?_; rw [a2]; rintro e w' ⟨rfl, rfl⟩)
    refine (refLives _ _ _ l id cats _ _ HR1.out rfl).mono ?_
    rintro e w2 ⟨rfl, hb⟩
    have HR2 := Aside.mk (HR1.out.below hb)
    have HB2 := Aside.mk (below_step HB1.out hb)
    clear hb
    go_wp2_with fail
    refine (refSame _ _ _ l cats _ _ HR2.out rfl).mono ?_
    rintro e w3 ⟨rfl, hb⟩
    have HR3 := Aside.mk (HR2.out.below hb)
    have HB3 := Aside.mk (below_step HB2.out hb)
    clear hb
    have HX := Aside.mk (one_ver (w := w3) (Z := Z) (x := ⟨⟨id, cats, [], []⟩, true⟩) (cl := [.string id, .int .i64 cats, .slice none 0 0, .slice none 0 0, .bool true]) 63 (verK.2 ⟨_, _, rfl, Sl.nil _ _ _, Sl.nil _ _ _⟩) (HZ.out _ HB3.out.size))
    have HL := Aside.mk (two_parts 42 (Sl.of (HR3.out.below ((Below.refl _ _).alloc (Nat.le_refl _) _)) hc) HX.out (HZ.out _ (Nat.le_trans HB3.out.size (by simp))))
    have HB4 := Aside.mk (HB3.out.trans ((((Below.refl w3.heap.size w3).alloc (Nat.le_refl _) (.cells #[.string id, .int .i64 cats, .slice none 0 0, .slice none 0 0, .bool true] 63)).alloc (by simp) (.cells #[.slice A l.length c, .slice (some ⟨w3.heap.size, 0, none⟩) 1 1] 42)).mono HB3.out.size))
    rw [show (w3.alloc (.cells [Value.string id, .int .i64 cats, .slice none 0 0, .slice none 0 0, .bool true].toArray 63)).heap.size = w3.heap.size + 1 from by simp] at HL
    go_wp2_with (go_at_call 174; refine (concatV _ 2 2 [l, [⟨⟨id, cats, [], []⟩, true⟩]] _ _ HL.out rfl (by rw [sum_two]; omega) (by rw [sum_two]; omega) (by omega)).mono ?_; rintro e w5 ⟨v5, rfl, ho, hb⟩; have HO5 := Aside.mk ho; have HB5 := Aside.mk (below_step HB4.out hb); clear ho hb)
    go_ret2
    exact ⟨_, rfl, by rw [← flat_two]; exact HO5.out.sl.mono fun k hk _ => hk.elim (fun h => h.1) fun e => HZ.out k (Nat.le_trans HB4.out.size (HO5.out.lt k e).1), HB5.out⟩
  all_goals
    rw [HX.out.1, HX.out.2]
    try rw [a3] at HD
    try rw [a4] at hd20
    have hdl := HD.out
    clear h1 hs
    go_enter Tryz.func103, Tryz.ntmps103
    go_wp2_with fail
    refine (refId id _).mono ?_
    rw [a1]
    rintro e w1 ⟨rfl, hb⟩
    have HR1 := Aside.mk (HR.out.below hb)
    have HB1 := Aside.mk hb
    clear HR hb
    go_wp2_with (first
      | (go_at_call 157; refine (refCats _ _).mono ?_; rw [a2]; rintro e w' ⟨rfl, rfl⟩)
      | (go_at_call 82; refine (refLives _ _ _ l id cats _ _ HR1.out rfl).mono ?_; rintro e w2 ⟨rfl, hb⟩; have HR2 := Aside.mk (HR1.out.below hb); have HB1 := Aside.mk (below_step HB1.out hb); clear hb)
      | (go_at_call 81; refine (refSame _ _ _ l cats _ _ HR2.out rfl).mono ?_; rintro e w3 ⟨rfl, hb⟩; have HB1 := Aside.mk (below_step HB1.out hb); clear hb))
    go_ret2
    exact ⟨_, rfl, Sl.nil _ _ _, HB1.out⟩
theorem refCut (A : Option Addr) (c : Nat) (l : List Ver) (id : ByteArray) (cats : Int) (ok : Nat → Prop) (w : World) (h1 : storeErr l = 0) (hr : verR.Row w ok A l) (hc : l.length ≤ c) :
    Calls Tryz.prog 103 #[.slice A l.length c, .string id, .int .i64 cats] w fun e w' => ∃ v, e = .returned (.tuple #[v, .int .i64 (cutErr l id cats)]) ∧
      verR.Sl w' (fun _ => True) v (cutV l id cats) ∧ Below w.heap.size w w' :=
  refCutZ A c l id cats ok (fun _ => True) w (fun _ _ => trivial) (fun _ _ _ => trivial) h1 hr hc
end Go.Proofs.WK
