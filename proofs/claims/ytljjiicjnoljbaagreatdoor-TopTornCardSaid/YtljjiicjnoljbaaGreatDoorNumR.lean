/-
  wyref.Num: a text as a number.
-/
import Derived.Test.YtljjiicjnoljbaaGreatDoorTxtC
import Derived.Test.YtljjiicjnoljbaaGreatDoorDec0
import Derived.Test.YtljjiicjnoljbaaGreatDoorShCutP
import Derived.Laws.IdiomStrings
namespace Go.Proofs.WK
open Go.RowKit Rp
/-- Behind the sign; whether there is one. -/
def bodyL (s : ByteArray) : List UInt8 := Lib.trimPrefix s.data.toList [45]
def negL (s : ByteArray) : Bool := Lib.hasPrefix s.data.toList [45]
theorem itoa_body (n : Int) : Lib.trimPrefix (Lib.itoa n) [45] = Lib.decDigits n.natAbs ∧ Lib.hasPrefix (Lib.itoa n) [45] = decide (n < 0) := by
  unfold Lib.itoa
  by_cases h : n < 0
  · rw [if_pos h, decide_eq_true h]
    simp [Lib.trimPrefix, Lib.hasPrefix, List.isPrefixOf]
  · rw [if_neg h, decide_eq_false h]
    have h1 := digits_all n.toNat
    have e : n.natAbs = n.toNat := by omega
    rw [e]
    cases hd : Lib.decDigits n.toNat with
    | nil => simp [Lib.trimPrefix, Lib.hasPrefix, List.isPrefixOf]
    | cons b r =>
      rw [hd] at h1
      have hb := h1 b (List.mem_cons_self ..)
      have e1 : ((45 : UInt8) == b) = false := beq_eq_false_iff_ne.2 fun e => by rw [← e] at hb; exact absurd hb.1 (by decide)
      simp [Lib.trimPrefix, Lib.hasPrefix, List.isPrefixOf, e1]
theorem body_of {s : ByteArray} {n : Int} (h : decS n = s) : bodyL s = Lib.decDigits n.natAbs ∧ negL s = decide (n < 0) := by
  rw [← h]
  exact itoa_body n
/-- What is said of a text whose digits spell v. -/
def sgn (s : ByteArray) (v : Nat) : Int := if negL s then -(v : Int) else v
theorem num_ok {s : ByteArray} {v : Nat} (h : Lib.decFrom 0 (bodyL s) = some v) (hl : s.size ≤ 9) : numV s = if decS (sgn s v) = s then some (sgn s v) else none := by
  by_cases hs : decS (sgn s v) = s
  · rw [if_pos hs]
    exact numV_iff.2 ⟨hl, hs⟩
  · rw [if_neg hs]
    refine numV_none.2 fun n ⟨_, hn⟩ => hs ?_
    obtain ⟨h1, h2⟩ := body_of hn
    rw [h1, decFrom_digits] at h
    injection h with h
    have e : sgn s v = n := by
      unfold sgn
      rw [h2]
      by_cases h0 : n < 0
      · rw [if_pos (decide_eq_true h0)]; omega
      · rw [if_neg (by simpa using h0)]; omega
    rw [e]
    exact hn
theorem num_bad {s : ByteArray} {c : UInt8} (hc : c ∈ bodyL s) (h : c.toNat < 48 ∨ 57 < c.toNat) : numV s = none := by
  refine numV_none.2 fun n ⟨_, hn⟩ => ?_
  rw [(body_of hn).1] at hc
  have := digits_all _ c hc
  omega
theorem num_short {s : ByteArray} (h : bodyL s = []) : s.size ≤ 1 := by
  have e : s.size = s.data.toList.length := Array.length_toList.symm
  rw [e]
  unfold bodyL Lib.trimPrefix at h
  split at h
  · have := congrArg List.length h
    rw [List.length_drop] at this
    simp only [List.length_nil, List.length_cons] at this
    omega
  · rw [h]
    exact Nat.zero_le _
theorem body_len (s : ByteArray) : (bodyL s).length ≤ s.size := by
  have e : s.size = s.data.toList.length := Array.length_toList.symm
  rw [e]
  unfold bodyL Lib.trimPrefix
  split
  · simp
  · exact Nat.le_refl _
theorem cutPC (s : ByteArray) (w : World) : Calls Tryz.prog 185 #[.string s, .string ⟨#[45]⟩] w fun e w' => e = .returned (.tuple #[.string (bs (bodyL s)), .bool (negL s)]) ∧ w = w' :=
  (show Calls Tryz.prog 185 #[.string s, .string ⟨#[45]⟩] w _ from Any.strings_CutPrefix Tryz.layCutP s ⟨#[45]⟩ w).mono fun e w' ⟨h1, h2⟩ => ⟨h1, h2.symm⟩
/-- '[]byte(t)'. -/
theorem to_bytes (t : ByteArray) (w : World) : ∃ W1 c, (convert 9 136 (.string t)).run Tryz.prog w = .ok (.slice (some ⟨w.heap.size, 0, none⟩) t.size c) W1 ∧
    (∀ (j : Nat) (b : UInt8), t.data.toList[j]? = some b → W1.cell? ⟨w.heap.size, j, none⟩ = some (.int .u8 (b.toNat : Nat))) ∧ w.heap.size < W1.heap.size ∧ Below w.heap.size w W1 := by
  refine ⟨_, _, run_bytes_of_string w 9 136 5 t Tryz.underlying9 Tryz.underlying136 Tryz.underlying5, fun j b hj => ?_, by simp, (below_drewN (Below.refl _ w) 1).alloc (Nat.le_refl _) _⟩
  obtain ⟨hl, hb⟩ := List.getElem?_eq_some_iff.1 hj
  rw [World.cell?]
  rw [show (w.drew.alloc (.cells (bytesRow t (grownCap w t.size 0 5)) 5 ((bytesRow t (grownCap w t.size 0 5)).size, (bytesRow t (grownCap w t.size 0 5)).size + 1))).heap[w.heap.size]? = some (.cells (bytesRow t (grownCap w t.size 0 5)) 5 ((bytesRow t (grownCap w t.size 0 5)).size, (bytesRow t (grownCap w t.size 0 5)).size + 1)) from heap_alloc_new w.drew _]
  simp only [Option.isSome_none, Bool.false_eq_true, if_false]
  unfold bytesRow
  rw [Array.length_toList] at hl
  rw [Array.getElem?_append_left (by simpa using hl), Array.getElem?_map]
  rw [Array.getElem_toList] at hb
  rw [Array.getElem?_eq_getElem hl, hb]
  rfl
set_option maxRecDepth 100000 in
theorem refNum (s : ByteArray) (w : World) (hs : s.size < 4294967281) :
    Calls Tryz.prog 112 #[.string s] w fun e w' => ∃ v : Int, e = .returned (.tuple #[.int .i64 v, .bool (numV s).isSome]) ∧ (∀ n, numV s = some n → v = n) ∧ Below w.heap.size w w' := by
  have hz : (bs (bodyL s)).size ≤ s.size := by rw [bs_size]; exact body_len s
  obtain ⟨W1, C1, hkc, hcl, hlt, hb1⟩ := to_bytes (bs (bodyL s)) w
  have HC := Aside.mk hcl
  have HB := Aside.mk hb1
  have hln : (bs (bodyL s)).size = (bodyL s).length := bs_size _
  rw [hln] at hkc hz
  clear hcl hb1 hln
  go_enter Tryz.func112, Tryz.ntmps112
  go_wp2_with (go_at_call 185; refine (cutPC s _).mono ?_; rintro e w1 ⟨rfl, rfl⟩)
  go_loopw [6, 17] (fun x i wr => ∃ k v : Nat, k ≤ (bodyL s).length ∧ i = .int .i64 k ∧ x = .int .i64 v ∧ Aside (Lib.decFrom 0 ((bodyL s).take k) = some v ∧ v < 10 ^ k ∧ (k = 0 ∨ s.size ≤ 9)) ∧ wr = W1) (fun _ i _ => (bodyL s).length - (intOf i).toNat)
  case atStart => exact ⟨0, 0, Nat.zero_le _, rfl, rfl, ⟨by rw [List.take_zero]; rfl, by decide, .inl rfl⟩, rfl⟩
  case round =>
    obtain ⟨k, v, hk, rfl, rfl, HK, rfl⟩ := hrel
    by_cases hlt2 : k < (bodyL s).length
    · have x0 := HC.out k _ (by rw [bs_data]; exact List.getElem?_eq_getElem hlt2)
      have HM := Aside.mk (List.getElem_mem hlt2)
      obtain ⟨b, hbe⟩ : ∃ b, b = (bodyL s)[k] := ⟨_, rfl⟩
      rw [← hbe] at x0 HM
      have HBE := Aside.mk hbe
      clear hbe
      have hways : (b.toNat < 48 ∧ Aside (numV s = none)) ∨ (48 ≤ b.toNat ∧ 57 < b.toNat ∧ Aside (numV s = none)) ∨ (48 ≤ b.toNat ∧ b.toNat ≤ 57 ∧ 9 < s.size ∧ Aside (numV s = none)) ∨ (48 ≤ b.toNat ∧ b.toNat ≤ 57 ∧ s.size ≤ 9) := by
        by_cases h1 : b.toNat < 48
        · exact .inl ⟨h1, ⟨num_bad HM.out (.inl h1)⟩⟩
        · by_cases h2 : 57 < b.toNat
          · exact .inr (.inl ⟨by omega, h2, ⟨num_bad HM.out (.inr h2)⟩⟩)
          · by_cases h3 : 9 < s.size
            · exact .inr (.inr (.inl ⟨by omega, by omega, h3, ⟨numV_long h3⟩⟩))
            · exact .inr (.inr (.inr ⟨by omega, by omega, by omega⟩))
      rcases hways with ⟨h1, HN⟩ | ⟨h1, h2, HN⟩ | ⟨h1, h2, h3, HN⟩ | ⟨h1, h2, h3⟩
      · have g1 : decide ((b.toNat : Int) < 48) = true := decide_eq_true (by omega)
        go_wp2_with fail
        go_ret2
        exact ⟨0, by rw [HN.out]; rfl, (by rw [HN.out]; intro n h; cases h), HB.out⟩
      · have g1 : decide ((b.toNat : Int) < 48) = false := decide_eq_false (by omega)
        have g2 : decide ((57 : Int) < (b.toNat : Int)) = true := decide_eq_true (by omega)
        go_wp2_with fail
        go_ret2
        exact ⟨0, by rw [HN.out]; rfl, (by rw [HN.out]; intro n h; cases h), HB.out⟩
      · have g1 : decide ((b.toNat : Int) < 48) = false := decide_eq_false (by omega)
        have g2 : decide ((57 : Int) < (b.toNat : Int)) = false := decide_eq_false (by omega)
        have g3 : decide ((9 : Int) < (s.size : Int)) = true := decide_eq_true (by omega)
        go_wp2_with fail
        go_ret2
        exact ⟨0, by rw [HN.out]; rfl, (by rw [HN.out]; intro n h; cases h), HB.out⟩
      · have g1 : decide ((b.toNat : Int) < 48) = false := decide_eq_false (by omega)
        have g2 : decide ((57 : Int) < (b.toNat : Int)) = false := decide_eq_false (by omega)
        have g3 : decide ((9 : Int) < (s.size : Int)) = false := decide_eq_false (by omega)
        have hv : v ≤ 1000000000 := Nat.le_trans (Nat.le_of_lt HK.out.2.1) (Nat.le_trans (Nat.pow_le_pow_right (by decide) (by omega : k ≤ 9)) (by decide))
        have hd : Lib.digitVal b = some (b.toNat - 48) := if_pos ⟨h1, h2⟩
        have HS : Aside (Lib.decFrom 0 ((bodyL s).take (k + 1)) = some (10 * v + (b.toNat - 48)) ∧ 10 * v + (b.toNat - 48) < 10 ^ (k + 1) ∧ (k + 1 = 0 ∨ s.size ≤ 9)) := ⟨by
          rw [Lib.decFrom_take _ k 0 v b _ HK.out.1 (by rw [HBE.out]; exact List.getElem?_eq_getElem hlt2) hd, Nat.mul_comm], by have := HK.out.2.1; rw [Nat.pow_succ]; omega, .inr h3⟩
        clear hd
        have w1 : IntKind.i64.wrap (10 * (v : Int)) = 10 * (v : Int) := by rw [IntKind.wrap_i64]; omega
        have w2 : IntKind.u8.wrap ((b.toNat : Int) - 48) = ((b.toNat - 48 : Nat) : Int) := by rw [IntKind.wrap_u8]; omega
        have w3 : IntKind.i64.wrap ((b.toNat - 48 : Nat) : Int) = ((b.toNat - 48 : Nat) : Int) := by rw [IntKind.wrap_i64]; omega
        have w4 : IntKind.i64.wrap (10 * (v : Int) + ((b.toNat - 48 : Nat) : Int)) = ((10 * v + (b.toNat - 48) : Nat) : Int) := by rw [IntKind.wrap_i64]; omega
        go_wp2_with fail
        exact ⟨⟨k + 1, 10 * v + (b.toNat - 48), by omega, by go_num, congrArg _ (by omega), HS, trivial⟩, by simp [intOf]; omega⟩
    · obtain rfl : k = (bodyL s).length := by omega
      have HK2 := HK.out
      rw [List.take_length] at HK2
      have hsz : s.size ≤ 9 := by
        rcases HK2.2.2 with h | h
        · have := num_short (List.length_eq_zero_iff.1 h)
          omega
        · exact h
      have HN := Aside.mk (num_ok HK2.1 hsz)
      have hv : v ≤ 1000000000 := Nat.le_trans (Nat.le_of_lt HK2.2.1) (Nat.le_trans (Nat.pow_le_pow_right (by decide) (by omega : (bodyL s).length ≤ 9)) (by decide))
      have HS := Aside.mk (show sgn s v = if negL s then -(v : Int) else v from rfl)
      obtain ⟨m, hm⟩ : ∃ m, m = sgn s v := ⟨_, rfl⟩
      rw [← hm] at HN HS
      have hmb : -1000000000 ≤ m ∧ m ≤ 1000000000 := by
        rw [HS.out]
        split <;> omega
      have HD := Aside.mk (decC m (by omega) (by omega))
      have hb2 : ((decS m).toList == s.toList) = (numV s).isSome := by
        rw [toList_beq, HN.out]
        by_cases h : decS m = s
        · rw [if_pos h, decide_eq_true h]; rfl
        · rw [if_neg h, decide_eq_false h]; rfl
      have HV := Aside.mk (show ∀ n, numV s = some n → m = n from fun n hn => by
        rw [HN.out] at hn
        split at hn
        · injection hn
        · cases hn)
      clear HK HK2 hm hlt2
      cases hng : negL s with
      | true =>
        rw [hng, if_pos rfl] at HS
        have w1 : IntKind.i64.wrap (-(v : Int)) = m := by rw [IntKind.wrap_i64, HS.out]; omega
        go_wp2_with (go_at_call 19; refine (HD.out _).mono ?_; rintro e w1 ⟨rfl, rfl⟩)
        go_ret2
        exact ⟨m, rfl, HV.out, HB.out⟩
      | false =>
        rw [hng, if_neg (by decide)] at HS
        obtain rfl : m = (v : Int) := HS.out
        go_wp2_with (go_at_call 19; refine (HD.out _).mono ?_; rintro e w1 ⟨rfl, rfl⟩)
        go_ret2
        exact ⟨_, rfl, HV.out, HB.out⟩
end Go.Proofs.WK
