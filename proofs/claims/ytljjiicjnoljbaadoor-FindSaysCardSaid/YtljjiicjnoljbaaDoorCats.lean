/-
  Kinds that may be: label.Cats, wyref.within, wyref.Cats.
-/
import Derived.Test.YtljjiicjnoljbaaDoorTy
namespace Go.Proofs.WK
open Go.RowKit Rp
theorem labelCats (n : Int) (w : World) : Calls Tryd.prog 64 #[.int .i64 n] w fun e w' => e = .returned (.bool (decide (0 ≤ n ∧ n ≤ 255))) ∧ w = w' := by
  by_cases h0 : 0 ≤ n <;> by_cases h1 : n < 256 <;>
  · go_enter Tryd.func64, Tryd.ntmps64
    go_wp2
    go_ret
    exact ⟨by simp; omega, rfl⟩
theorem within (x a b : Int) (w : World) : Calls Tryd.prog 60 #[.int .i64 x, .int .i64 a, .int .i64 b] w fun e w' => e = .returned (.bool (decide (a ≤ x ∧ x ≤ b))) ∧ w = w' := by
  by_cases h0 : a ≤ x <;> by_cases h1 : x ≤ b <;>
  · go_enter Tryd.func60, Tryd.ntmps60
    go_wp2
    go_ret
    exact ⟨by simp; omega, rfl⟩
theorem refCats (n : Int) (w : World) : Calls Tryd.prog 36 #[.int .i64 n] w fun e w' => e = .returned (.bool (decide (0 ≤ n ∧ n ≤ 255))) ∧ w = w' := by
  go_enter Tryd.func36, Tryd.ntmps36
  go_wp2_with (go_at_call 60; refine (within _ _ _ _).mono ?_; rintro e w' ⟨rfl, rfl⟩)
  go_ret
  exact ⟨by simp, rfl⟩
end Go.Proofs.WK
