/-
  strconv.Atoi, as this program bears it.
-/
import Derived.Test.YtljjiicjnoljbaaGreatDoorNumR
import Derived.Test.YtljjiicjnoljbaaGreatDoorDec0
import Derived.Test.YtljjiicjnoljbaaGreatDoorShAtoi
import Derived.Lib.AtoiAllCases
import Derived.Lib.AtoiErrMem
namespace Go.Proofs.WK
open Go.RowKit Rp
theorem pu_of : ∀ (l : List UInt8) (acc u j : Nat), acc < 10 ^ j → j + l.length ≤ 18 → Lib.decFrom acc l = some u → Lib.parseUint10 acc l = .ok u ∧ u < 10 ^ 18
  | [], acc, u, j, ha, hj, h => by
    injection h with h
    subst h
    exact ⟨rfl, Nat.lt_of_lt_of_le ha (Nat.pow_le_pow_right (by decide) (by simpa using hj))⟩
  | c :: r, acc, u, j, ha, hj, h => by
    rw [List.length_cons] at hj
    have h17 : acc < 10 ^ 17 := Nat.lt_of_lt_of_le ha (Nat.pow_le_pow_right (by decide) (by omega))
    simp only [Lib.decFrom] at h
    unfold Lib.digitVal at h
    by_cases hc : 48 ≤ c.toNat ∧ c.toNat ≤ 57
    · rw [if_pos hc] at h
      simp only at h
      simp only [Lib.parseUint10]
      rw [if_pos hc, if_neg (by omega), if_neg (by omega)]
      exact pu_of r _ u (j + 1) (by rw [Nat.pow_succ]; omega) (by omega) h
    · rw [if_neg hc] at h
      cases h
theorem atoiAll_itoa {m : Int} (h : (decS m).size ≤ 9) : Lib.atoiAll (Lib.itoa m) = .ok m := by
  rw [decS, bs_size] at h
  have hne := digits_ne
  unfold Lib.itoa at h ⊢
  by_cases h0 : m < 0
  · rw [if_pos h0] at h ⊢
    rw [List.length_cons] at h
    obtain ⟨h1, h2⟩ := pu_of (Lib.decDigits m.natAbs) 0 m.natAbs 0 (by decide) (by omega) (decFrom_digits _)
    rw [Lib.atoiAll_minus, Lib.parseMag, if_neg (hne _), h1, Lib.signed]
    rw [if_neg (by omega)]
    congr 1
    omega
  · rw [if_neg h0] at h ⊢
    obtain ⟨h1, h2⟩ := pu_of (Lib.decDigits m.toNat) 0 m.toNat 0 (by decide) (by omega) (decFrom_digits _)
    have hd := digits_all m.toNat
    have hn := hne m.toNat
    cases hl : Lib.decDigits m.toNat with
    | nil => exact absurd hl hn
    | cons c r =>
      rw [hl] at h1 hd
      have hc := hd c (List.mem_cons_self ..)
      rw [Lib.atoiAll_plain c r (by omega) (by omega), Lib.parseMag, if_neg (by simp), h1, Lib.signless]
      rw [if_neg (by omega)]
      congr 1
      omega
/-- How Atoi stands to a number's text. -/
theorem numV_all {s : ByteArray} {n : Int} (h : numV s = some n) : Lib.atoiAll s.data.toList = .ok n := by
  obtain ⟨h1, h2⟩ := numV_iff.1 h
  have : s.data.toList = Lib.itoa n := by rw [← h2]; rfl
  rw [this]
  exact atoiAll_itoa (by rw [h2]; exact h1)
theorem numV_ok {s : ByteArray} {n : Int} (h : Lib.atoiAll s.data.toList = .ok n) (hl : s.size ≤ 9) : numV s = if decS n = s then some n else none := by
  by_cases hs : decS n = s
  · rw [if_pos hs]
    exact numV_iff.2 ⟨hl, hs⟩
  · rw [if_neg hs]
    cases hv : numV s with
    | none => rfl
    | some m =>
      have := numV_all hv
      rw [h] at this
      injection this with this
      subst this
      exact absurd (numV_iff.1 hv).2 hs
/-- The two errors' cells. -/
def ErrCells (w : World) : Prop := (∃ t p, w.cell? ⟨1, 0, none⟩ = some (.iface t p)) ∧ ∃ t p, w.cell? ⟨2, 0, none⟩ = some (.iface t p)
theorem ErrCells.below {w w' : World} (h : ErrCells w) (hb : Below w.heap.size w w') : ErrCells w' := by
  obtain ⟨⟨t, p, h1⟩, t', p', h2⟩ := h
  exact ⟨⟨t, p, cell_below hb h1⟩, t', p', cell_below hb h2⟩
theorem atoiC (s : ByteArray) (w : World) (hs : s.size ≤ 281474976710656) (hc : ErrCells w) :
    Calls Tryz.prog 110 #[.string s] w fun e w' => ∃ (v : Int) (ev : Value), e = .returned (.tuple #[.int .i64 v, ev]) ∧ ((ev = .nilIface ∧ Lib.atoiAll s.data.toList = .ok v ∧ -9223372036854775808 ≤ v ∧ v ≤ 9223372036854775807) ∨ ((∃ t p, ev = .iface t p) ∧ numV s = none)) ∧ Below w.heap.size w w' := by
  obtain ⟨⟨t, p, h1⟩, t', p', h2⟩ := hc
  cases ha : Lib.atoiAll s.data.toList
  · rename_i v
    have hm : s.size ≤ 9223372036854775806 := by omega
    have hc := Any.strconv_Atoi_ok Tryz.layAtoi s hm v ha w
    have hv := Lib.atoiAll_bounds ha
    refine Calls.mono hc fun e w' h => ?_
    obtain ⟨h, hw⟩ := h
    refine ⟨v, .nilIface, h, .inl ⟨rfl, rfl, hv⟩, ?_⟩
    rcases hw with rfl | ⟨t, rfl⟩
    · exact Below.refl _ _
    · exact Lib.bytesWorld_below _ _ _
  · refine (show Calls Tryz.prog 110 #[.string s] w _ from Any.strconv_Atoi_syntax Tryz.layAtoi s hs ha (.iface t p) w h1 (.inr ⟨t, p, rfl⟩)).mono fun e w' ⟨N, h, _, _, hb⟩ => ⟨_, _, h, .inr ⟨⟨_, _, rfl⟩, ?_⟩, hb⟩
    cases hv : numV s with
    | none => rfl
    | some m => rw [numV_all hv] at ha; cases ha
  · refine (show Calls Tryz.prog 110 #[.string s] w _ from Any.strconv_Atoi_range Tryz.layAtoi s hs ha (.iface t' p') w h2 (.inr ⟨t', p', rfl⟩)).mono fun e w' ⟨N, h, _, _, hb⟩ => ⟨_, _, h, .inr ⟨⟨_, _, rfl⟩, ?_⟩, hb⟩
    cases hv : numV s with
    | none => rfl
    | some m => rw [numV_all hv] at ha; cases ha
end Go.Proofs.WK
