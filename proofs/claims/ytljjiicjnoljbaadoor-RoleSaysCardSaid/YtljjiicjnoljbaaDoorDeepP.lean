/-
  How deep a role lies: the plain laws. No program.
-/
import Derived.Test.YtljjiicjnoljbaaDoorRoleP
namespace Go.Proofs.WK
/-- wyref.Deep, with fuel: best over the first n roles. -/
def deepN (up : List Int) : Nat → Nat → Int
  | 0, _ => 0
  | f + 1, i => (List.range i).foldl (fun best j => if bit (upAt up i) j = true then max best (1 + deepN up f j) else best) 0
def deepK (up : List Int) (f i n : Nat) : Int := (List.range n).foldl (fun best j => if bit (upAt up i) j = true then max best (1 + deepN up f j) else best) 0
theorem deepK_step (up : List Int) (f i n : Nat) : deepK up f i (n + 1) = if bit (upAt up i) n = true then max (deepK up f i n) (1 + deepN up f n) else deepK up f i n := by
  simp [deepK, List.range_succ]
theorem deepN_succ (up : List Int) (f i : Nat) : deepN up (f + 1) i = deepK up f i i := rfl
theorem deepN_le (up : List Int) : ∀ (f i : Nat), 0 ≤ deepN up f i ∧ deepN up f i ≤ f
  | 0, _ => by simp [deepN]
  | f + 1, i => by
    rw [deepN_succ]
    have key : ∀ n, 0 ≤ deepK up f i n ∧ deepK up f i n ≤ ((f + 1 : Nat) : Int) := by
      intro n
      induction n with
      | zero => simp [deepK]; omega
      | succ n ih =>
        rw [deepK_step]
        have := deepN_le up f n
        split
        · omega
        · exact ih
    exact key i
theorem deepK_le (up : List Int) (f i n : Nat) : 0 ≤ deepK up f i n ∧ deepK up f i n ≤ ((f + 1 : Nat) : Int) := by
  induction n with
  | zero => simp [deepK]; omega
  | succ n ih =>
    rw [deepK_step]
    have := deepN_le up f n
    split
    · omega
    · exact ih
/-- Fuel beyond the role's number adds nothing. -/
theorem deepN_fuel {up : List Int} : ∀ (f g i : Nat), i < f → i < g → deepN up f i = deepN up g i
  | 0, _, _, h, _ => by omega
  | _, 0, _, _, h => by omega
  | f + 1, g + 1, i, hf, hg => by
    rw [deepN_succ, deepN_succ]
    have key : ∀ n, n ≤ i → deepK up f i n = deepK up g i n := by
      intro n
      induction n with
      | zero => intro _; rfl
      | succ n ih =>
        intro hn
        rw [deepK_step, deepK_step, ih (by omega), deepN_fuel f g n (by omega) (by omega)]
    exact key i (Nat.le_refl _)
def deep (up : List Int) (i : Nat) : Int := deepN up 9 i
/-- The bits of u from p on. -/
def hi (u p : Nat) : Nat := u / 2 ^ p * 2 ^ p
theorem deepK_gap {up : List Int} {f i p : Nat} : ∀ t, p ≤ t → (∀ j, p ≤ j → j < t → bit (upAt up i) j = false) → deepK up f i t = deepK up f i p := by
  intro t ht
  induction t with
  | zero =>
    intro _
    obtain rfl : p = 0 := by omega
    rfl
  | succ t ih =>
    intro h
    rcases Nat.lt_or_ge t p with h1 | h1
    · obtain rfl : p = t + 1 := by omega
      rfl
    · rw [deepK_step, h t h1 (by omega), ih h1 fun j h2 h3 => h j h2 (by omega)]
      simp
/-- The lowest bit. -/
def tz (x : Nat) : Nat := ((List.range 8).find? fun j => x.testBit j).getD 64
set_option maxRecDepth 100000 in
theorem hi_all : ∀ u : Fin 256, ∀ p : Fin 9, (hi u.val p.val ≠ 0 → p.val ≤ tz (hi u.val p.val) ∧ tz (hi u.val p.val) < 8 ∧ u.val.testBit (tz (hi u.val p.val)) = true ∧ ((List.range 8).all fun j => !(decide (p.val ≤ j) && decide (j < tz (hi u.val p.val))) || !u.val.testBit j) = true ∧
    hi u.val p.val &&& (hi u.val p.val - 1) = hi u.val (tz (hi u.val p.val) + 1)) ∧ (hi u.val p.val = 0 → ((List.range 8).all fun j => !decide (p.val ≤ j) || !u.val.testBit j) = true) := by decide +kernel
theorem hi_step {u p : Nat} (hu : u < 256) (hp : p < 9) (h : hi u p ≠ 0) : p ≤ tz (hi u p) ∧ tz (hi u p) < 8 ∧ u.testBit (tz (hi u p)) = true ∧ (∀ j, p ≤ j → j < tz (hi u p) → u.testBit j = false) ∧ hi u p &&& (hi u p - 1) = hi u (tz (hi u p) + 1) := by
  obtain ⟨h1, h2, h3, h4, h5⟩ := (hi_all ⟨u, hu⟩ ⟨p, hp⟩).1 h
  refine ⟨h1, h2, h3, fun j a b => ?_, h5⟩
  rw [List.all_eq_true] at h4
  have h6 := h4 j (by rw [List.mem_range]; exact Nat.lt_trans b h2)
  simpa [a, b] using h6
theorem hi_zero {u p : Nat} (hu : u < 256) (hp : p < 9) (h : hi u p = 0) (j : Nat) (hj : p ≤ j) : u.testBit j = false := by
  have h4 := (hi_all ⟨u, hu⟩ ⟨p, hp⟩).2 h
  rw [List.all_eq_true] at h4
  rcases Nat.lt_or_ge j 8 with h8 | h8
  · have h6 := h4 j (by rw [List.mem_range]; exact h8)
    simpa [hj] using h6
  · exact Nat.testBit_lt_two_pow (Nat.lt_of_lt_of_le hu (Nat.pow_le_pow_right (n := 2) (by omega) h8))
theorem hi_start (u : Nat) : hi u 0 = u := by simp [hi]
theorem hi_le (u p : Nat) : hi u p ≤ u := Nat.div_mul_le_self _ _
end Go.Proofs.WK
