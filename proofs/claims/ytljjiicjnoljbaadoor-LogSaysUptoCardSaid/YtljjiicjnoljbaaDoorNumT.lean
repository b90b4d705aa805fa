/-
  Numerals as plain data: a number as text, and a text as a number. No program.
-/
import Derived.Test.YtljjiicjnoljbaaDoorPl0
import Derived.Lib.ItoaLen
import Derived.Lib.Atoi
import Derived.Lib.AtoiAllCases
import Derived.Lib.AtoiOr
namespace Go.Proofs.WK
/-- Bytes as a text. -/
def bs (l : List UInt8) : ByteArray := ⟨l.toArray⟩
theorem bs_data (l : List UInt8) : (bs l).data.toList = l := rfl
theorem data_bs (s : ByteArray) : bs s.data.toList = s := rfl
theorem bs_inj {a b : List UInt8} : bs a = bs b ↔ a = b := ⟨fun h => by have := congrArg (fun s : ByteArray => s.data.toList) h; simpa [bs] using this, fun h => by rw [h]⟩
theorem bs_size (l : List UInt8) : (bs l).size = l.length := by simp [bs, ByteArray.size]
theorem bs_app (a b : List UInt8) : bs a ++ bs b = bs (a ++ b) := toL_inj (by simp [bs])
theorem app_data (a b : ByteArray) : (a ++ b).data.toList = a.data.toList ++ b.data.toList := by simp
/-- A number as text. -/
def decS (n : Int) : ByteArray := bs (Lib.itoa n)
def dgt (n : Int) : UInt8 := UInt8.ofNat (48 + n.natAbs % 10)
theorem digits_rec (u : Nat) : Lib.decDigits u = if u / 10 = 0 then [UInt8.ofNat (48 + u % 10)] else Lib.decDigits (u / 10) ++ [UInt8.ofNat (48 + u % 10)] := by
  rw [Lib.decDigits]
  by_cases h : u < 10
  · rw [dif_pos h, if_pos (by omega), Nat.mod_eq_of_lt h]
  · rw [dif_neg h, if_neg (by omega)]
/-- One digit more. -/
theorem itoa_rec (n : Int) : Lib.itoa n = if n.tdiv 10 = 0 then (if n < 0 then [45, dgt n] else [dgt n]) else Lib.itoa (n.tdiv 10) ++ [dgt n] := by
  unfold Lib.itoa dgt
  by_cases h : n < 0
  · obtain ⟨m, rfl⟩ : ∃ m : Nat, n = -(m : Int) := ⟨n.natAbs, by omega⟩
    have e : (-(m : Int)).tdiv 10 = -((m / 10 : Nat) : Int) := by rw [Int.neg_tdiv, Int.ofNat_tdiv]; rfl
    rw [if_pos h, e, if_pos h, Int.natAbs_neg, Int.natAbs_natCast, digits_rec m]
    by_cases h1 : m / 10 = 0
    · rw [if_pos h1, if_pos (by omega)]
    · rw [if_neg h1, if_neg (by omega), if_pos (by omega), Int.natAbs_neg, Int.natAbs_natCast]
      rfl
  · obtain ⟨m, rfl⟩ : ∃ m : Nat, n = (m : Int) := ⟨n.toNat, by omega⟩
    have e : ((m : Int)).tdiv 10 = ((m / 10 : Nat) : Int) := by rw [Int.ofNat_tdiv]; rfl
    rw [if_neg h, e, if_neg h, Int.natAbs_natCast, Int.toNat_natCast, digits_rec m]
    by_cases h1 : m / 10 = 0
    · rw [if_pos h1, if_pos (by omega)]
    · rw [if_neg h1, if_neg (by omega), if_neg (by omega), Int.toNat_natCast]
theorem digit_val : ∀ d : Fin 10, Lib.digitVal (UInt8.ofNat (48 + d.val)) = some d.val ∧ 48 ≤ (UInt8.ofNat (48 + d.val)).toNat ∧ (UInt8.ofNat (48 + d.val)).toNat ≤ 57 := by decide
theorem decFrom_snoc (b : UInt8) : ∀ (l : List UInt8) (acc : Nat), Lib.decFrom acc (l ++ [b]) = (Lib.decFrom acc l).bind fun n => (Lib.digitVal b).map fun d => n * 10 + d
  | [], acc => by
    simp only [List.nil_append, Lib.decFrom, Option.bind_some]
    cases Lib.digitVal b <;> rfl
  | a :: l, acc => by
    simp only [List.cons_append, Lib.decFrom]
    cases Lib.digitVal a with
    | none => rfl
    | some d => exact decFrom_snoc b l _
theorem decFrom_digits (u : Nat) : Lib.decFrom 0 (Lib.decDigits u) = some u := by
  induction u using Nat.strongRecOn with
  | ind u ih =>
    have hd := (digit_val ⟨u % 10, Nat.mod_lt _ (by decide)⟩).1
    simp only at hd
    rw [digits_rec]
    by_cases h : u / 10 = 0
    · rw [if_pos h, ← List.nil_append [_], decFrom_snoc, hd]
      simp [Lib.decFrom]
      omega
    · rw [if_neg h, decFrom_snoc, ih (u / 10) (by omega), hd]
      simp
      omega
theorem digits_all (u : Nat) : ∀ b ∈ Lib.decDigits u, 48 ≤ b.toNat ∧ b.toNat ≤ 57 := by
  induction u using Nat.strongRecOn with
  | ind u ih =>
    have hd := (digit_val ⟨u % 10, Nat.mod_lt _ (by decide)⟩).2
    rw [digits_rec]
    intro b hb
    by_cases h : u / 10 = 0
    · rw [if_pos h, List.mem_singleton] at hb
      subst hb
      exact hd
    · rw [if_neg h, List.mem_append, List.mem_singleton] at hb
      rcases hb with hb | rfl
      · exact ih (u / 10) (by omega) b hb
      · exact hd
theorem digits_ne (u : Nat) : Lib.decDigits u ≠ [] := by
  rw [digits_rec]
  split <;> simp
theorem decNat_digits (u : Nat) : Lib.decNat (Lib.decDigits u) = some u := by
  unfold Lib.decNat
  have h := digits_ne u
  rw [if_neg (by cases hd : Lib.decDigits u <;> simp_all)]
  exact decFrom_digits u
theorem atoi_itoa (n : Int) : Lib.atoi (Lib.itoa n) = some n := by
  unfold Lib.itoa
  by_cases h : n < 0
  · rw [if_pos h]
    rw [Lib.atoi, if_pos (by decide), decNat_digits]
    simp
    omega
  · rw [if_neg h]
    have h1 := digits_all n.toNat
    have h2 := decNat_digits n.toNat
    have h3 := digits_ne n.toNat
    cases hd : Lib.decDigits n.toNat with
    | nil => exact absurd hd h3
    | cons b r =>
      rw [hd] at h1 h2
      have hb := h1 b (List.mem_cons_self ..)
      rw [Lib.atoi]
      have e1 : ¬ (b == 45) = true := by
        intro e
        rw [beq_iff_eq.1 e] at hb
        exact absurd hb.1 (by decide)
      have e2 : ¬ (b == 43) = true := by
        intro e
        rw [beq_iff_eq.1 e] at hb
        exact absurd hb.1 (by decide)
      rw [if_neg e1, if_neg e2, h2]
      simp
      omega
/-- A text as a number: of at most nine bytes, as Dec has it. -/
def numV (s : ByteArray) : Option Int := if s.size ≤ 9 then (match Lib.atoi s.data.toList with | some n => if decS n = s then some n else none | none => none) else none
theorem numV_iff {s : ByteArray} {n : Int} : numV s = some n ↔ s.size ≤ 9 ∧ decS n = s := by
  unfold numV
  constructor
  · intro h
    split at h
    · rename_i hl
      split at h
      · split at h
        · rename_i e
          injection h with h
          subst h
          exact ⟨hl, e⟩
        · cases h
      · cases h
    · cases h
  · rintro ⟨hl, rfl⟩
    rw [if_pos hl, show (decS n).data.toList = Lib.itoa n from rfl, atoi_itoa]
    exact if_pos rfl
theorem numV_none {s : ByteArray} : numV s = none ↔ ∀ n, ¬ (s.size ≤ 9 ∧ decS n = s) := by
  constructor
  · intro h n hn
    rw [numV_iff.2 hn] at h
    cases h
  · intro h
    cases hn : numV s with
    | none => rfl
    | some n => exact absurd (numV_iff.1 hn) (h n)
theorem numV_atoi {s : ByteArray} {n : Int} (h : Lib.atoi s.data.toList = some n) (hl : s.size ≤ 9) : numV s = if decS n = s then some n else none := by
  unfold numV
  rw [if_pos hl, h]
theorem numV_bad {s : ByteArray} (h : Lib.atoi s.data.toList = none) : numV s = none := by
  unfold numV
  rw [h]
  split <;> rfl
theorem numV_long {s : ByteArray} (h : 9 < s.size) : numV s = none := if_neg (by omega)
theorem decS_inj {a b : Int} (h : decS a = decS b) : a = b := by
  have h1 := atoi_itoa a
  rw [bs_inj.1 h, atoi_itoa] at h1
  injection h1 with h1
  exact h1.symm
theorem decS_len {n : Int} (h0 : -9223372036854775808 ≤ n) (h1 : n ≤ 9223372036854775807) : (decS n).size ≤ 21 := by
  unfold decS
  rw [bs_size]
  exact Lib.itoa_length_le n h0 h1
end Go.Proofs.WK
