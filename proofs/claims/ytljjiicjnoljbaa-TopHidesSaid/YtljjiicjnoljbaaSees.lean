/-
  rule.fits, Sees, May and the reference's Sees, May (P12, P13).
-/
import Derived.Test.YtljjiicjnoljbaaRule
import Derived.Deep.CutRange
import Derived.Deep.DeepCutAuto
namespace Go.Proofs.WK
open Go.RowKit Rp
theorem sumN_congr {k : Nat} {p q : Nat → Bool} (h : ∀ i, i < k → p i = q i) : sumN k p = sumN k q := Nat.eq_of_testBit_eq fun j => by
  rw [testBit_sumN, testBit_sumN]
  by_cases hj : j < k
  · simp [hj, h j hj]
  · simp [hj]
theorem or_kinds (p : Nat → Bool) {c : Int} (h0 : 0 ≤ c) (h1 : c ≤ 255) : bits .or .i64 ((sumN 8 p : Nat) : Int) c = ((sumN 8 (fun i => p i || bit c i) : Nat) : Int) := by
  obtain ⟨x, rfl⟩ := Int.eq_ofNat_of_zero_le h0
  have := sumN_lt 8 p
  rw [or_s _ x 8 (by omega) this (by omega)]
  congr 1
  refine sumN_congr fun i hi => ?_
  rw [bit_sumN]
  simp [hi]
theorem andNot_kinds (p q : Nat → Bool) : bits .andNot .i64 ((sumN 8 p : Nat) : Int) ((sumN 8 q : Nat) : Int) = ((sumN 8 (fun i => p i && !q i) : Nat) : Int) := by
  have h1 := sumN_lt 8 p
  have h2 := sumN_lt 8 q
  rw [andNot_n _ _ 8 (by omega) h1 (by omega)]
  congr 1
  refine sumN_congr fun i hi => ?_
  rw [bit_sumN, bit_sumN]
  simp [hi]
def fA (o : Nat) (r : Rul) : Bool := decide (r.role < 0) || o.testBit r.role.toNat
def fB (r : Rul) (q : Who) : Bool := decide (r.why < 0) || r.why == q.why
def fitsB (o : Nat) (r : Rul) (q : Who) : Bool := fA o r && fB r q && decide (r.frm ≤ q.time) && decide (q.time < r.til)
set_option maxHeartbeats 4000000 in
set_option maxRecDepth 100000 in
theorem ruleFits (o : Nat) (ho : o < 256) (r : Rul) (q : Who) (h7 : r.role ≤ 7) (w : World) : Calls Try.prog 65 #[rulV r, .int .i64 o, whoV q] w fun e w' => e = .returned (.bool (fitsB o r q)) ∧ Below w.heap.size w w' := by
  have hrole : (r.role < 0 ∧ Aside (fA o r = true)) ∨ (∃ n : Nat, r.role = n ∧ n ≤ 7 ∧ bits .and .i64 ((o : Int) / 2 ^ n) 1 = 1 ∧ Aside (fA o r = true)) ∨ (∃ n : Nat, r.role = n ∧ n ≤ 7 ∧ bits .and .i64 ((o : Int) / 2 ^ n) 1 = 0 ∧ Aside (fA o r = false)) := by
    by_cases h0 : r.role < 0
    · exact .inl ⟨h0, ⟨by simp [fA, h0]⟩⟩
    · obtain ⟨n, hn⟩ : ∃ n : Nat, r.role = n := ⟨r.role.toNat, by omega⟩
      have ha := and_one (k := n) ho
      have hf : fA o r = o.testBit n := by unfold fA; rw [hn, decide_eq_false (by omega), Int.toNat_natCast]; rfl
      cases hb : o.testBit n
      · exact .inr (.inr ⟨n, hn, by omega, by rw [ha, hb]; rfl, ⟨hf.trans hb⟩⟩)
      · exact .inr (.inl ⟨n, hn, by omega, by rw [ha, hb]; rfl, ⟨hf.trans hb⟩⟩)
  have hwhy : (r.why < 0 ∧ Aside (fB r q = true)) ∨ (decide (r.why < 0) = false ∧ (r.why == q.why) = true ∧ Aside (fB r q = true)) ∨ (decide (r.why < 0) = false ∧ (r.why == q.why) = false ∧ Aside (fB r q = false)) := by
    by_cases h0 : r.why < 0
    · exact .inl ⟨h0, ⟨by simp [fB, h0]⟩⟩
    · have h1 : decide (r.why < 0) = false := decide_eq_false h0
      cases hb : (r.why == q.why)
      · exact .inr (.inr ⟨h1, rfl, ⟨by rw [fB, h1, hb]; rfl⟩⟩)
      · exact .inr (.inl ⟨h1, rfl, ⟨by rw [fB, h1, hb]; rfl⟩⟩)
  cases hc : decide (r.frm ≤ q.time) <;> cases hd : decide (q.time < r.til)
  all_goals
    have H0 : fitsB o r q = (fA o r && fB r q && decide (r.frm ≤ q.time) && decide (q.time < r.til)) := rfl
    rw [hc, hd] at H0
    rcases hrole with ⟨a1, HA⟩ | ⟨n, a1, a2, a3, HA⟩ | ⟨n, a1, a2, a3, HA⟩
  all_goals
    rcases hwhy with ⟨b1, HB⟩ | ⟨b1, b2, HB⟩ | ⟨b1, b2, HB⟩
  all_goals
    rw [HA.out, HB.out] at H0
    have H := Aside.mk H0
    clear H0
    go_enter Try.func65, Try.ntmps65
    go_wp2_with fail
    go_ret
    exact ⟨by rw [H.out]; rfl, ((Below.refl _ _).alloc (Nat.le_refl _) _).alloc (by simp) _⟩
end Go.Proofs.WK
