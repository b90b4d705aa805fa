/-
  log.Sum, wyref.Sum (P45).
-/
import Derived.Test.YtljjiicjnoljbaaGreatDoorTxt0
import Derived.Test.YtljjiicjnoljbaaGreatDoorWk0
namespace Go.Proofs.WK
open Go.RowKit Rp
/-- Each byte as often as its place says, the first k of them. -/
def wsum (l : List UInt8) : Nat → Nat
  | 0 => 0
  | k + 1 => wsum l k + (k + 1) * (l[k]?.getD 0).toNat
/-- P45. -/
def sumV (s : ByteArray) : Int := ((wsum s.data.toList s.size % 65521 : Nat) : Int)
theorem wsum_le (l : List UInt8) : ∀ k j, k ≤ j → wsum l k ≤ wsum l j
  | k, 0, h => by rw [Nat.le_zero.1 h]; exact Nat.le_refl _
  | k, j + 1, h => by
    rcases Nat.lt_or_ge k (j + 1) with h1 | h1
    · exact Nat.le_trans (wsum_le l k j (by omega)) (Nat.le_add_right _ _)
    · rw [show k = j + 1 by omega]; exact Nat.le_refl _
theorem wsum_next {s : ByteArray} {k : Nat} (hk : k < s.size) : wsum s.data.toList (k + 1) = wsum s.data.toList k + (k + 1) * (s[k]).toNat := by
  rw [wsum]
  have e : s.data.toList[k]? = some s[k] := by
    rw [Array.getElem?_toList, Array.getElem?_eq_getElem (by exact hk)]
    rfl
  rw [e]
  rfl
theorem step_up (a n b : Nat) : (a % 65521 + n * b) % 65521 = (a + n * b) % 65521 := by omega
theorem mul_small {n b : Nat} (hn : n ≤ 4294967281) (hb : b < 256) : n * b ≤ 1099511623936 := by
  have h := Nat.mul_le_mul hn (Nat.le_of_lt_succ hb)
  omega
set_option maxRecDepth 100000 in
theorem logSum (s : ByteArray) (w : World) (hs : s.size < 4294967281) : Calls Tryz.prog 63 #[.string s] w fun e w' => e = .returned (.int .i64 (sumV s)) ∧ w = w' := by
  have hs2 : (s.size : Int) ≤ 4294967281 := by omega
  go_enter Tryz.func63, Tryz.ntmps63
  go_wp2_with fail
  go_loopw [3, 7] (fun x i wr => ∃ k : Nat, k ≤ s.size ∧ i = .int .i64 k ∧ x = .int .i64 ((wsum s.data.toList k % 65521 : Nat) : Int) ∧ w = wr) (fun _ i _ => s.size - (intOf i).toNat)
  case atStart => exact ⟨0, Nat.zero_le _, rfl, rfl, rfl⟩
  case round =>
    obtain ⟨k, hk, rfl, rfl, rfl⟩ := hrel
    by_cases hlt : k < s.size
    · have hb : (s[k]).toNat < 256 := (s[k]).toNat_lt
      have hm := mul_small (n := k + 1) (b := (s[k]).toNat) (by omega) hb
      have hx : wsum s.data.toList k % 65521 < 65521 := Nat.mod_lt _ (by decide)
      have HN := Aside.mk (show (wsum s.data.toList k % 65521 + (k + 1) * (s[k]).toNat) % 65521 = wsum s.data.toList (k + 1) % 65521 by rw [step_up, wsum_next hlt])
      obtain ⟨p, hp⟩ : ∃ p, p = (k + 1) * (s[k]).toNat := ⟨_, rfl⟩
      obtain ⟨x, hxx⟩ : ∃ x, x = wsum s.data.toList k % 65521 := ⟨_, rfl⟩
      rw [← hp] at hm HN
      rw [← hxx] at hx HN ⊢
      have w1 : IntKind.i64.wrap (((s[k]).toNat : Nat) : Int) = ((s[k]).toNat : Nat) := by rw [IntKind.wrap_i64]; omega
      have w2 : IntKind.i64.wrap (((k : Int) + 1) * (((s[k]).toNat : Nat) : Int)) = (p : Int) := by
        rw [show ((k : Int) + 1) * (((s[k]).toNat : Nat) : Int) = (p : Int) by rw [hp, Int.natCast_mul]; rfl, IntKind.wrap_i64]
        omega
      have w3 : IntKind.i64.wrap ((x : Int) + (p : Int)) = ((x + p : Nat) : Int) := by rw [IntKind.wrap_i64]; omega
      have w4 : (((x + p : Nat) : Int)).tmod 65521 = (((x + p) % 65521 : Nat) : Int) := rfl
      clear hp hxx
      go_wp2_with fail
      exact ⟨⟨k + 1, by omega, by go_num, by rw [← HN.out]; rfl, trivial⟩, by simp [intOf]; omega⟩
    · obtain rfl : k = s.size := by omega
      go_wp2_with fail
      go_ret
      exact ⟨rfl, rfl⟩
set_option maxRecDepth 100000 in
theorem refSum (s : ByteArray) (w : World) (hs : s.size < 4294967281) : Calls Tryz.prog 113 #[.string s] w fun e w' => e = .returned (.int .i64 (sumV s)) ∧ w = w' := by
  have hs2 : (s.size : Int) ≤ 4294967281 := by omega
  go_enter Tryz.func113, Tryz.ntmps113
  go_wp2_with fail
  go_loopw [3, 4] (fun x i wr => ∃ k : Nat, k ≤ s.size ∧ i = .int .i64 k ∧ x = .int .i64 (((wsum s.data.toList s.size - wsum s.data.toList k) % 65521 : Nat) : Int) ∧ w = wr) (fun _ i _ => (intOf i).toNat)
  case atStart => exact ⟨s.size, Nat.le_refl _, rfl, by rw [Nat.sub_self]; rfl, rfl⟩
  case round =>
    obtain ⟨k, hk, rfl, rfl, rfl⟩ := hrel
    cases k with
    | zero =>
      rw [show wsum s.data.toList 0 = 0 from rfl, Nat.sub_zero, show ((0 : Nat) : Int) = 0 from rfl]
      go_wp2_with fail
      go_ret
      exact ⟨rfl, rfl⟩
    | succ k =>
      have hlt : k < s.size := by omega
      have hb : (s[k]).toNat < 256 := (s[k]).toNat_lt
      have hm := mul_small (n := k + 1) (b := (s[k]).toNat) (by omega) hb
      have hle := wsum_le s.data.toList (k + 1) s.size (by omega)
      have hnx := wsum_next hlt
      obtain ⟨x, hxx⟩ : ∃ x, x = (wsum s.data.toList s.size - wsum s.data.toList (k + 1)) % 65521 := ⟨_, rfl⟩
      have hx : x < 65521 := by rw [hxx]; exact Nat.mod_lt _ (by decide)
      have HN := Aside.mk (show (x + (k + 1) * (s[k]).toNat) % 65521 = (wsum s.data.toList s.size - wsum s.data.toList k) % 65521 by rw [hxx, step_up]; congr 1; omega)
      obtain ⟨p, hp⟩ : ∃ p, p = (k + 1) * (s[k]).toNat := ⟨_, rfl⟩
      rw [← hp] at hm HN
      rw [← hxx]
      have w0 : ((k + 1 : Nat) : Int) - 1 = (k : Int) := by omega
      have g0 : decide ((0 : Int) < ((k + 1 : Nat) : Int)) = true := decide_eq_true (by omega)
      have w1 : IntKind.i64.wrap (((s[k]).toNat : Nat) : Int) = ((s[k]).toNat : Nat) := by rw [IntKind.wrap_i64]; omega
      have w2 : IntKind.i64.wrap (((k + 1 : Nat) : Int) * (((s[k]).toNat : Nat) : Int)) = (p : Int) := by
        rw [show ((k + 1 : Nat) : Int) * (((s[k]).toNat : Nat) : Int) = (p : Int) by rw [hp, Int.natCast_mul], IntKind.wrap_i64]
        omega
      have w2' : IntKind.i64.wrap (((k : Int) + 1) * (((s[k]).toNat : Nat) : Int)) = (p : Int) := w2
      have w3 : IntKind.i64.wrap ((x : Int) + (p : Int)) = ((x + p : Nat) : Int) := by rw [IntKind.wrap_i64]; omega
      have w4 : (((x + p : Nat) : Int)).tmod 65521 = (((x + p) % 65521 : Nat) : Int) := rfl
      clear hp hxx hnx hle
      go_wp2_with fail
      exact ⟨⟨k, by omega, by go_num, by rw [← HN.out]; rfl, trivial⟩, by simp [intOf]⟩
end Go.Proofs.WK
