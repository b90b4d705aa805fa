/-
  slices.Concat of versions (by the library's own slices.Grow).
-/
import Derived.Test.YtljjiicjnoljbaaGreatDoorRec0
import Derived.Shelf.Spec.SlicesGrow
import Derived.Test.YtljjiicjnoljbaaGreatDoorShGrow
namespace Go.Proofs.WK
open Go.RowKit Rp
theorem infoV2 : ∃ i0, Tryz.prog.info? 63 = some i0 ∧ i0.zero = some (.agg #[.string ByteArray.empty, .int .i64 0, .slice none 0 0, .slice none 0 0, .bool false]) ∧ i0.size = 5 ∧ i0.bytes = 80 := by
  obtain ⟨i0, h1, h2⟩ := Option.map_eq_some_iff.1 infoV
  simp only [Prod.mk.injEq] at h2
  exact ⟨i0, h1, h2.1, h2.2.1, h2.2.2⟩
theorem growV (n : Nat) (h0 : 0 < n) (hn : n ≤ 6000) (ok : Nat → Prop) (w : World) : Calls Tryz.prog 245 #[.slice none 0 0, .int .i64 n] w fun e w' => ∃ v, e = .returned v ∧ verR.Own 63 w' w.heap.size ok v [] ∧ Below w.heap.size w w' := by
  obtain ⟨i0, hi, hz, hs, hb⟩ := infoV2
  have h := Any8.slices_Grow_grow Tryz.growV i0 _ hi hz (by omega) none 0 0 n [] w (Nat.le_refl _) (by omega) (by rw [hb]; omega) (by omega) (by simp) (fun _ => rfl) (fun a e => by cases e)
  refine (show Calls Tryz.prog 245 _ _ _ from h).mono fun e w' ⟨he, hw⟩ => ⟨_, he, ?_, ?_⟩
  · have hcap := grownCap_ge w (0 + n) 0 63
    refine ⟨[], ⟨by simp, .inr ⟨w.heap.size, _, _, rfl, Nat.le_refl _, by rw [hw]; exact heap_alloc_new w.drew _, Nat.zero_le _, grownCap_le_maxLen _ _ _ _ (by unfold maxLen; omega), ?_, by simp⟩⟩, by simp, fun j p h => by simp at h⟩
    have e25 : Tryz.growV_ren.t 25 = 63 := by kernel_rfl
    show _ = grownCap w (0 + n) 0 63 * 5
    rw [Nat.zero_add] at hcap ⊢
    simp [size_zeroCells, Value.cells, e25]
    omega
  · rw [hw]
    exact (below_drewN (Below.refl _ _) 1).alloc (Nat.le_refl _) _
/-- The parts, one behind the other. -/
def sumL (P : List (List Ver)) : Nat := (P.map List.length).sum
theorem sumL_step {P : List (List Ver)} {k : Nat} (hk : k < P.length) : sumL (P.take (k + 1)) = sumL (P.take k) + P[k].length := by
  unfold sumL
  rw [List.take_succ_eq_append_getElem hk, List.map_append, List.sum_append]
  simp only [List.map_cons, List.map_nil, List.sum_cons, List.sum_nil, Nat.add_zero]
theorem sumL_le (P : List (List Ver)) (k : Nat) : sumL (P.take k) ≤ sumL P := by
  unfold sumL
  conv => rhs; rw [← List.take_append_drop k P]
  rw [List.map_append, List.sum_append]
  omega
theorem flat_step {P : List (List Ver)} {k : Nat} (hk : k < P.length) : (P.take (k + 1)).flatten = (P.take k).flatten ++ P[k] := by
  rw [List.take_succ_eq_append_getElem hk, List.flatten_append]
  simp only [List.flatten_cons, List.flatten_nil, List.append_nil]
theorem flat_len (P : List (List Ver)) : P.flatten.length = sumL P := by unfold sumL; exact List.length_flatten
set_option maxHeartbeats 1600000 in
set_option maxRecDepth 100000 in
theorem concatV (A : Option Addr) (n c : Nat) (P : List (List Ver)) (ok : Nat → Prop) (w : World) (hr : (slice verR).Row w ok A P) (hn : P.length = n) (h0 : 0 < sumL P) (h6 : sumL P ≤ 6000) (hp : n ≤ 100) :
    Calls Tryz.prog 174 #[.slice A n c] w fun e w' => ∃ v, e = .returned v ∧ verR.Own 63 w' w.heap.size (fun k => ok k ∧ k < w.heap.size) v P.flatten ∧ Below w.heap.size w w' := by
  subst hn
  have HR := Aside.mk (hr.mono (ok' := fun k => ok k ∧ k < w.heap.size) fun k h1 h2 => ⟨h1, h2⟩)
  clear hr
  go_enter Tryz.func174, Tryz.ntmps174
  go_wp2_with fail
  go_loopw [3, 11] (fun x i wr => ∃ k : Nat, k ≤ P.length ∧ i = .int .i64 k ∧ x = .int .i64 (sumL (P.take k)) ∧ w = wr) (fun _ i _ => P.length - (intOf i).toNat)
  case atStart => exact ⟨0, Nat.zero_le _, rfl, rfl, rfl⟩
  case round =>
    obtain ⟨k, hk, rfl, rfl, rfl⟩ := hrel
    by_cases hlt : k < P.length
    · obtain ⟨ad, u, rfl, _, _, hK, x0⟩ := HR.out.at1 rfl hlt
      obtain ⟨u', hu, A1, c1, rfl, _, _⟩ := hK
      obtain rfl : u = .slice A1 P[k].length c1 := by simpa using hu
      have HS := Aside.mk (sumL_step hlt)
      have s0 := sumL_le P k
      have s1 := sumL_le P (k + 1)
      have s2 : (0 : Int) ≤ (sumL (P.take k) : Int) := by omega
      have s3 : (sumL (P.take k) : Int) ≤ 6000 := by omega
      have s4 : (P[k].length : Int) ≤ 6000 := by have := HS.out; omega
      have s5 : (0 : Int) ≤ (P[k].length : Int) := by omega
      clear s0 s1 hu
      go_wp2_with fail
      refine ⟨⟨k + 1, by omega, by go_num, by rw [HS.out]; go_num, trivial⟩, by simp [intOf]; omega⟩
    · obtain rfl : k = P.length := by omega
      rw [List.take_length]
      go_wp2_with fail
      refine (growV (sumL P) h0 h6 (fun k => ok k ∧ k < w.heap.size) w).mono ?_
      rintro e w1 ⟨v, rfl, ho, hb⟩
      have HO := Aside.mk ho
      have HB := Aside.mk hb
      clear ho hb
      go_wp2_with fail
      go_loopw [6, 27] (fun x i wr => ∃ k : Nat, k ≤ P.length ∧ i = .int .i64 k ∧ Aside (verR.Own 63 wr w.heap.size (fun k => ok k ∧ k < w.heap.size) x (P.take k).flatten) ∧ Aside (Below w.heap.size w wr)) (fun _ i _ => P.length - (intOf i).toNat)
      case atStart => exact ⟨0, Nat.zero_le _, rfl, HO, HB⟩
      case round =>
        clear HO HB
        obtain ⟨k, hk, rfl, HO, HB⟩ := hrel
        by_cases hlt : k < P.length
        · obtain ⟨ad, u, rfl, _, _, hK, x0⟩ := (HR.out.below HB.out).at1 rfl hlt
          obtain ⟨u', hu, A1, c1, rfl, _, hrow⟩ := hK
          obtain rfl : u = .slice A1 P[k].length c1 := by simpa using hu
          have HF := Aside.mk (flat_step hlt)
          have HW := Aside.mk hrow
          have s1 := sumL_le P (k + 1)
          have HL := Aside.mk (show ((P.take k).flatten.length + P[k].length) * 80 ≤ 140737488355328 by rw [flat_len]; have := sumL_step hlt; omega)
          clear hu hrow s1
          go_wp2_with (at_builtin; refine append_row (w0 := w) (ok1 := fun k => ok k ∧ k < w.heap.size) verR w.heap.size rfl (.tmp 31) (.tmp 32) 42 63 _ 80 rfl Tryz.underlying42 infoV rfl (by decide) (by decide) u6 (P.take k).flatten P[k] A1 c1 (fun k => ok k ∧ k < w.heap.size) rfl rfl HW.out (fun _ _ h => verR.mono (fun k h1 _ => ⟨h1, fun e => by have := (HO.out.lt _ e.symm).1; have := h1.2; omega⟩) h) HO.out HB.out HB.out.size HL.out ?_; intro v1 w2 HO2 HB2 hg hat; clear hg hat)
          refine ⟨⟨k + 1, by omega, by go_num, ⟨by rw [HF.out]; exact HO2⟩, ⟨HB2⟩⟩, by simp [intOf]; omega⟩
        · obtain rfl : k = P.length := by omega
          rw [List.take_length] at HO
          go_wp2_with fail
          go_ret
          exact ⟨_, rfl, HO.out, HB.out⟩
end Go.Proofs.WK
