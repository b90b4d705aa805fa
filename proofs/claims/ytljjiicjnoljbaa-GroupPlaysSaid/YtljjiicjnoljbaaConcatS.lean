/-
  slices.Concat of texts (by the library's own slices.Grow).
-/
import Derived.Test.YtljjiicjnoljbaaLibS
import Derived.Shelf.Spec.SlicesGrow
import Derived.Test.YtljjiicjnoljbaaShGrowS
namespace Go.Proofs.WK
open Go.RowKit Rp
theorem infoS2 : ∃ i0, Try.prog.info? 9 = some i0 ∧ i0.zero = some (.string ByteArray.empty) ∧ i0.size = 1 ∧ i0.bytes = 16 := by
  obtain ⟨i0, h1, h2⟩ := Option.map_eq_some_iff.1 infoStr
  simp only [Prod.mk.injEq] at h2
  exact ⟨i0, h1, h2.1, h2.2.1, h2.2.2⟩
theorem growS (n : Nat) (h0 : 0 < n) (hn : n ≤ 6000) (ok : Nat → Prop) (w : World) : Calls Try.prog 112 #[.slice none 0 0, .int .i64 n] w fun e w' => ∃ v, e = .returned v ∧ str.Own 9 w' w.heap.size ok v [] ∧ Below w.heap.size w w' := by
  obtain ⟨i0, hi, hz, hs, hb⟩ := infoS2
  have h := Any8.slices_Grow_grow Try.growS i0 _ hi hz (by omega) none 0 0 n [] w (Nat.le_refl _) (by omega) (by rw [hb]; omega) (by omega) (by simp) (fun _ => rfl) (fun a e => by cases e)
  refine (show Calls Try.prog 112 _ _ _ from h).mono fun e w' ⟨he, hw⟩ => ⟨_, he, ?_, ?_⟩
  · have hcap := grownCap_ge w (0 + n) 0 9
    refine ⟨[], ⟨by simp, .inr ⟨w.heap.size, _, _, rfl, Nat.le_refl _, by rw [hw]; exact heap_alloc_new w.drew _, Nat.zero_le _, grownCap_le_maxLen _ _ _ _ (by unfold maxLen; omega), ?_, by simp⟩⟩, by simp, fun j p h => by simp at h⟩
    have e25 : Try.growS_ren.t 25 = 9 := by kernel_rfl
    show _ = grownCap w (0 + n) 0 9 * 1
    rw [Nat.zero_add] at hcap ⊢
    simp [size_zeroCells, Value.cells, e25]
    omega
  · rw [hw]
    exact (below_drewN (Below.refl _ _) 1).alloc (Nat.le_refl _) _
/-- The parts, one behind the other. -/
def sumS (P : List (List ByteArray)) : Nat := (P.map List.length).sum
theorem sumS_step {P : List (List ByteArray)} {k : Nat} (hk : k < P.length) : sumS (P.take (k + 1)) = sumS (P.take k) + P[k].length := by
  unfold sumS
  rw [List.take_succ_eq_append_getElem hk, List.map_append, List.sum_append]
  simp only [List.map_cons, List.map_nil, List.sum_cons, List.sum_nil, Nat.add_zero]
theorem sumS_le (P : List (List ByteArray)) (k : Nat) : sumS (P.take k) ≤ sumS P := by
  unfold sumS
  conv => rhs; rw [← List.take_append_drop k P]
  rw [List.map_append, List.sum_append]
  omega
theorem flatS_step {P : List (List ByteArray)} {k : Nat} (hk : k < P.length) : (P.take (k + 1)).flatten = (P.take k).flatten ++ P[k] := by
  rw [List.take_succ_eq_append_getElem hk, List.flatten_append]
  simp only [List.flatten_cons, List.flatten_nil, List.append_nil]
theorem flatS_len (P : List (List ByteArray)) : P.flatten.length = sumS P := by unfold sumS; exact List.length_flatten
set_option maxHeartbeats 1600000 in
set_option maxRecDepth 100000 in
theorem concatS (A : Option Addr) (n c : Nat) (P : List (List ByteArray)) (ok : Nat → Prop) (w : World) (hr : (slice str).Row w ok A P) (hn : P.length = n) (h0 : 0 < sumS P) (h6 : sumS P ≤ 6000) (hp : n ≤ 100) :
    Calls Try.prog 90 #[.slice A n c] w fun e w' => ∃ v, e = .returned v ∧ str.Own 9 w' w.heap.size (fun k => ok k ∧ k < w.heap.size) v P.flatten ∧ Below w.heap.size w w' := by
  subst hn
  have HR := Aside.mk (hr.mono (ok' := fun k => ok k ∧ k < w.heap.size) fun k h1 h2 => ⟨h1, h2⟩)
  clear hr
  go_enter Try.func90, Try.ntmps90
  go_wp2_with fail
  go_loopw [3, 11] (fun x i wr => ∃ k : Nat, k ≤ P.length ∧ i = .int .i64 k ∧ x = .int .i64 (sumS (P.take k)) ∧ w = wr) (fun _ i _ => P.length - (intOf i).toNat)
  case atStart => exact ⟨0, Nat.zero_le _, rfl, rfl, rfl⟩
  case round =>
    obtain ⟨k, hk, rfl, rfl, rfl⟩ := hrel
    by_cases hlt : k < P.length
    · obtain ⟨ad, u, rfl, _, _, hK, x0⟩ := HR.out.at1 rfl hlt
      obtain ⟨u', hu, A1, c1, rfl, _, _⟩ := hK
      obtain rfl : u = .slice A1 P[k].length c1 := by simpa using hu
      have HS := Aside.mk (sumS_step hlt)
      have s0 := sumS_le P k
      have s1 := sumS_le P (k + 1)
      have s2 : (0 : Int) ≤ (sumS (P.take k) : Int) := by omega
      have s3 : (sumS (P.take k) : Int) ≤ 6000 := by omega
      have s4 : (P[k].length : Int) ≤ 6000 := by have := HS.out; omega
      have s5 : (0 : Int) ≤ (P[k].length : Int) := by omega
      clear s0 s1 hu
      go_wp2_with fail
      refine ⟨⟨k + 1, by omega, by go_num, by rw [HS.out]; go_num, trivial⟩, by simp [intOf]; omega⟩
    · obtain rfl : k = P.length := by omega
      rw [List.take_length]
      go_wp2_with fail
      refine (growS (sumS P) h0 h6 (fun k => ok k ∧ k < w.heap.size) w).mono ?_
      rintro e w1 ⟨v, rfl, ho, hb⟩
      have HO := Aside.mk ho
      have HB := Aside.mk hb
      clear ho hb
      go_wp2_with fail
      go_loopw [6, 27] (fun x i wr => ∃ k : Nat, k ≤ P.length ∧ i = .int .i64 k ∧ Aside (str.Own 9 wr w.heap.size (fun k => ok k ∧ k < w.heap.size) x (P.take k).flatten) ∧ Aside (Below w.heap.size w wr)) (fun _ i _ => P.length - (intOf i).toNat)
      case atStart => exact ⟨0, Nat.zero_le _, rfl, HO, HB⟩
      case round =>
        clear HO HB
        obtain ⟨k, hk, rfl, HO, HB⟩ := hrel
        by_cases hlt : k < P.length
        · obtain ⟨ad, u, rfl, _, _, hK, x0⟩ := (HR.out.below HB.out).at1 rfl hlt
          obtain ⟨u', hu, A1, c1, rfl, _, hrow⟩ := hK
          obtain rfl : u = .slice A1 P[k].length c1 := by simpa using hu
          have HF := Aside.mk (flatS_step hlt)
          have HW := Aside.mk hrow
          have s1 := sumS_le P (k + 1)
          have HL := Aside.mk (show ((P.take k).flatten.length + P[k].length) * 16 ≤ 140737488355328 by rw [flatS_len]; have := sumS_step hlt; omega)
          clear hu hrow s1
          go_wp2_with (at_builtin; refine append_row (w0 := w) (ok1 := fun k => ok k ∧ k < w.heap.size) str w.heap.size rfl (.tmp 31) (.tmp 32) 22 9 _ 16 rfl Try.underlying22 infoStr rfl (by decide) (by decide) u6 (P.take k).flatten P[k] A1 c1 (fun k => ok k ∧ k < w.heap.size) rfl rfl HW.out (fun _ _ h => str.mono (fun k h1 _ => ⟨h1, fun e => by have := (HO.out.lt _ e.symm).1; have := h1.2; omega⟩) h) HO.out HB.out HB.out.size HL.out ?_; intro v1 w2 HO2 HB2 hg hat; clear hg hat)
          refine ⟨⟨k + 1, by omega, by go_num, ⟨by rw [HF.out]; exact HO2⟩, ⟨HB2⟩⟩, by simp [intOf]; omega⟩
        · obtain rfl : k = P.length := by omega
          rw [List.take_length] at HO
          go_wp2_with fail
          go_ret
          exact ⟨_, rfl, HO.out, HB.out⟩
end Go.Proofs.WK
