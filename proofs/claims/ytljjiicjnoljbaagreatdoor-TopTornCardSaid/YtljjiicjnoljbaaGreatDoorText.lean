/-
  wyref.Text: a record that may be, as text.
-/
import Derived.Test.YtljjiicjnoljbaaGreatDoorTxt0
import Derived.Test.YtljjiicjnoljbaaGreatDoorDec0
import Derived.Test.YtljjiicjnoljbaaGreatDoorRef0
namespace Go.Proofs.WK
open Go.RowKit Rp
def headL (r : Rec) : List UInt8 := r.id.data.toList ++ 59 :: (Lib.itoa r.cats ++ [59])
def fieldsK (r : Rec) (k : Nat) : List UInt8 := headL r ++ commas ((r.fields.take k).map fldL)
def refsK (r : Rec) (k : Nat) : List UInt8 := fieldsK r r.fields.length ++ 59 :: commas ((r.refs.take k).map (·.data.toList))
theorem textL_eq (r : Rec) : textL r = refsK r r.refs.length := by
  unfold textL refsK fieldsK headL
  rw [List.take_length, List.take_length]
  simp [List.append_assoc]
theorem fieldsK_step {r : Rec} {k : Nat} (hk : k < r.fields.length) : fieldsK r (k + 1) = fieldsK r k ++ ((if k = 0 then [] else [44]) ++ fldL r.fields[k]) := by
  unfold fieldsK
  rw [List.take_succ_eq_append_getElem hk, List.map_append, List.map_cons, List.map_nil, commas_snoc]
  by_cases h : k = 0
  · subst h
    simp [commas, Lib.join_nil]
  · rw [if_neg h, if_neg (by
      intro e
      have := congrArg List.length e
      rw [List.length_map, List.length_take, List.length_nil] at this
      omega)]
    simp [List.append_assoc]
theorem refsK_step {r : Rec} {k : Nat} (hk : k < r.refs.length) : refsK r (k + 1) = refsK r k ++ ((if k = 0 then [] else [44]) ++ r.refs[k].data.toList) := by
  unfold refsK
  rw [List.take_succ_eq_append_getElem hk, List.map_append, List.map_cons, List.map_nil, commas_snoc]
  by_cases h : k = 0
  · subst h
    simp [commas, Lib.join_nil]
  · rw [if_neg h, if_neg (by
      intro e
      have := congrArg List.length e
      rw [List.length_map, List.length_take, List.length_nil] at this
      omega)]
    simp [List.append_assoc]
theorem fld_ok {r : Rec} (h : recErr r = 0) {k : Nat} (hk : k < r.fields.length) : (r.fields[k]).key.size ≤ 8 ∧ (r.fields[k]).val.size ≤ 12 := by
  have h1 := (rec_ok h).2.2.2.2.2.1
  unfold fldsOk at h1
  rw [Bool.and_eq_true] at h1
  have h2 := List.all_eq_true.1 h1.1 _ (List.getElem_mem hk)
  unfold fldOk at h2
  rw [Bool.and_eq_true] at h2
  refine ⟨(idOk_size h2.1).2, ?_⟩
  have h3 := h2.2
  unfold valOk at h3
  rw [Bool.and_eq_true, decide_eq_true_eq] at h3
  exact h3.1
theorem ref_ok {r : Rec} (h : recErr r = 0) {k : Nat} (hk : k < r.refs.length) : (r.refs[k]).size ≤ 8 := by
  have h1 := (rec_ok h).2.2.2.2.2.2
  unfold refsOk at h1
  rw [Bool.and_eq_true] at h1
  exact (idOk_size (List.all_eq_true.1 h1.1 _ (List.getElem_mem hk))).2
theorem app_size (a b : ByteArray) : (a ++ b).size = a.size + b.size := by simp
theorem str_of (a : ByteArray) {l : List UInt8} (h : a.data.toList = l) : a = bs l := toL_inj h
set_option maxRecDepth 100000 in
set_option maxHeartbeats 2000000 in
theorem refText (r : Rec) (A1 A2 : Option Addr) (c1 c2 : Nat) (ok ok' : Nat → Prop) (hrec : recErr r = 0) (w : World) (hf : fldR.Row w ok A1 r.fields) (hg : str.Row w ok' A2 r.refs) :
    Calls Tryz.prog 256 #[.agg #[.string r.id, .int .i64 r.cats, .slice A1 r.fields.length c1, .slice A2 r.refs.length c2]] w fun e w' => e = .returned (.string (textV r)) ∧ Below w.heap.size w w' := by
  have hb1 : Below w.heap.size w (w.alloc (.cells (recC r A1 A2 c1 c2).toArray 36)) := (Below.refl _ _).alloc (Nat.le_refl _) _
  have HF := Aside.mk (hf.below hb1)
  have HG := Aside.mk (hg.below hb1)
  have HQ := Aside.mk (Bk.made w (recC r A1 A2 c1 c2) 36)
  have HB := Aside.mk hb1
  have HR := Aside.mk hrec
  obtain ⟨i1, i2, i3, i4, i5, _, _⟩ := rec_ok hrec
  have hid := (idOk_size i1).2
  have hds := decS_len (n := r.cats) (by omega) (by omega)
  clear hf hg hb1 hrec i1
  go_enter Tryz.func256, Tryz.ntmps256
  go_wp2_with fail
  go_quiet ((go_at_call 19; exact Calls.quiet_of_same ((decC _ (by omega) (by omega) _).mono fun _ _ h => ⟨h.1, h.2.symm⟩)))
  have hdz : (decS r.cats).data.toList = Lib.itoa r.cats := bs_data _
  obtain ⟨L0, hL0, hz0⟩ : ∃ L : ByteArray, L = r.id ++ ⟨#[59]⟩ ++ decS r.cats ++ ⟨#[59]⟩ ∧ L.size ≤ 40 := ⟨_, rfl, by simp only [app_size]; have e : (⟨#[59]⟩ : ByteArray).size = 1 := rfl; omega⟩
  rw [← hL0]
  have HL0 := Aside.mk (show L0 = bs (fieldsK r 0) by
    rw [hL0]
    apply toL_inj
    rw [bs_data]
    unfold fieldsK headL
    simp only [app_data, hdz, List.take_zero, List.map_nil]
    simp [commas, Lib.join_nil])
  have HI := Aside.mk (show fldR.Row ((w.alloc (.cells (recC r A1 A2 c1 c2).toArray 36)).drewN nq) ok A1 r.fields ∧ str.Row ((w.alloc (.cells (recC r A1 A2 c1 c2).toArray 36)).drewN nq) ok' A2 r.refs ∧ Bk ((w.alloc (.cells (recC r A1 A2 c1 c2).toArray 36)).drewN nq) w.heap.size (recC r A1 A2 c1 c2) ∧ Below w.heap.size w ((w.alloc (.cells (recC r A1 A2 c1 c2).toArray 36)).drewN nq) from
    ⟨HF.out.below (below_drewN (Below.refl _ _) nq), HG.out.below (below_drewN (Below.refl _ _) nq), HQ.out.drewN nq, below_drewN HB.out nq⟩)
  clear HF HG HQ HB hL0 hdz hds hid
  go_wp2_with fail
  go_loopw [3, 19] (fun x i wr => ∃ (k : Nat) (L : ByteArray), k ≤ r.fields.length ∧ i = .int .i64 k ∧ x = .string L ∧ Aside (L = bs (fieldsK r k)) ∧ L.size ≤ 40 + 30 * k ∧ Aside (fldR.Row wr ok A1 r.fields ∧ str.Row wr ok' A2 r.refs ∧ Bk wr w.heap.size (recC r A1 A2 c1 c2) ∧ Below w.heap.size w wr)) (fun _ i _ => r.fields.length - (intOf i).toNat)
  case atStart => exact ⟨0, L0, Nat.zero_le _, rfl, rfl, HL0, by omega, HI⟩
  case round =>
    clear hz0 HI HL0
    obtain ⟨k, L, hk, rfl, rfl, HL, hLz, HW⟩ := hrel
    have q0 := (HW.out.2.2.1).four
    by_cases hlt : k < r.fields.length
    · obtain ⟨ad, rfl, _, x0, x1⟩ := fld_at HW.out.1 hlt
      obtain ⟨hkz, hvz⟩ := fld_ok HR.out hlt
      have HS := Aside.mk (fieldsK_step hlt)
      have hal : Below wr.heap.size wr (wr.alloc (.cells #[.string r.fields[k].key, .string r.fields[k].val] 38)) := (Below.refl _ _).alloc (Nat.le_refl _) _
      have HW2 := Aside.mk (show _ ∧ _ ∧ _ ∧ _ from ⟨HW.out.1.below hal, HW.out.2.1.below hal, HW.out.2.2.1.below hal, below_step HW.out.2.2.2 hal⟩)
      have q2 := (Bk.made wr [.string r.fields[k].key, .string r.fields[k].val] 38).two
      clear hal
      rcases Nat.eq_zero_or_pos k with hk0 | hk0
      · have hg : decide ((0 : Int) < (k : Int)) = false := decide_eq_false (by omega)
        have hg2 : decide (0 < k) = false := decide_eq_false (by omega)
        have hg3 : ¬ (0 < k) := by omega
        have HK0 := Aside.mk hk0
        clear hk0
        go_wp2_with fail
        refine ⟨⟨k + 1, _, by omega, by go_num, rfl, ⟨?_⟩, ?_, HW2⟩, by simp [intOf]; omega⟩
        · rw [HS.out, HL.out, if_pos HK0.out]
          apply toL_inj
          simp only [app_data, bs_data]
          simp [fldL]
        · simp only [app_size]
          have e : (⟨#[61]⟩ : ByteArray).size = 1 := rfl
          omega
      · have hg : decide ((0 : Int) < (k : Int)) = true := decide_eq_true (by omega)
        go_wp2_with fail
        refine ⟨⟨k + 1, _, by omega, by go_num, rfl, ⟨?_⟩, ?_, HW2⟩, by simp [intOf]; omega⟩
        · rw [HS.out, HL.out, if_neg (by omega)]
          apply toL_inj
          simp only [app_data, bs_data]
          simp [fldL]
        · simp only [app_size]
          have e : (⟨#[61]⟩ : ByteArray).size = 1 := rfl
          have e2 : (⟨#[44]⟩ : ByteArray).size = 1 := rfl
          omega
    · obtain rfl : k = r.fields.length := by omega
      go_wp2_with fail
      have HI := HW
      have HL0 := HL
      clear q0 HL HW
      rename World => W1
      generalize hLL : L ++ ⟨#[59]⟩ = L1
      have hz1 : L1.size ≤ 230 := by
        rw [← hLL, app_size]
        have e : (⟨#[59]⟩ : ByteArray).size = 1 := rfl
        omega
      have HL1 := Aside.mk (show L1 = bs (refsK r 0) by
        rw [← hLL, HL0.out]
        apply toL_inj
        simp only [app_data, bs_data]
        unfold refsK
        simp [commas, Lib.join_nil])
      clear hLL HL0 hLz hk
      go_loopw [3, 42] (fun x i wr => ∃ (k : Nat) (L : ByteArray), k ≤ r.refs.length ∧ i = .int .i64 k ∧ x = .string L ∧ Aside (L = bs (refsK r k)) ∧ L.size ≤ 230 + 30 * k ∧ wr = W1) (fun _ i _ => r.refs.length - (intOf i).toNat)
      case atStart => exact ⟨0, L1, Nat.zero_le _, rfl, rfl, HL1, by omega, rfl⟩
      case round =>
        clear hz1 HL1
        obtain ⟨k, L, hk, rfl, rfl, HL, hLz, rfl⟩ := hrel
        by_cases hlt : k < r.refs.length
        · obtain ⟨ad, rfl, _, x0⟩ := str_at HI.out.2.1 hlt
          have hkz := ref_ok HR.out hlt
          have HS := Aside.mk (refsK_step hlt)
          rcases Nat.eq_zero_or_pos k with hk0 | hk0
          · have hg : decide ((0 : Int) < (k : Int)) = false := decide_eq_false (by omega)
            have hg2 : decide (0 < k) = false := decide_eq_false (by omega)
            have hg3 : ¬ (0 < k) := by omega
            have HK0 := Aside.mk hk0
            clear hk0
            go_wp2_with fail
            refine ⟨⟨k + 1, _, by omega, by go_num, rfl, ⟨?_⟩, ?_, trivial⟩, by simp [intOf]; omega⟩
            · rw [HS.out, HL.out, if_pos HK0.out]
              apply toL_inj
              simp only [app_data, bs_data]
              simp
            · simp only [app_size]
              omega
          · have hg : decide ((0 : Int) < (k : Int)) = true := decide_eq_true (by omega)
            go_wp2_with fail
            refine ⟨⟨k + 1, _, by omega, by go_num, rfl, ⟨?_⟩, ?_, trivial⟩, by simp [intOf]; omega⟩
            · rw [HS.out, HL.out, if_neg (by omega)]
              apply toL_inj
              simp only [app_data, bs_data]
              simp
            · simp only [app_size]
              have e : (⟨#[44]⟩ : ByteArray).size = 1 := rfl
              omega
        · obtain rfl : k = r.refs.length := by omega
          have HE := Aside.mk (show L = textV r by rw [HL.out]; exact congrArg bs (textL_eq r).symm)
          go_wp2_with fail
          go_ret
          exact ⟨by rw [HE.out]; rfl, HI.out.2.2.2⟩
end Go.Proofs.WK
