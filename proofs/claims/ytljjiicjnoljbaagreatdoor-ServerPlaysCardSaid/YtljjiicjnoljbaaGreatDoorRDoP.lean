/-
  What somebody may see of a store is a store; a record that is there, as its version. No walk.
-/
import Derived.Test.YtljjiicjnoljbaaGreatDoorSrvN
namespace Go.Proofs.WK
theorem seen_store {l : List Ver} (h : storeErr l = 0) (m : Int) : storeErr (seenL l m) = 0 := by
  have key : ∀ n, n ≤ l.length → storeErr (seenL (l.take n) m) = 0 := by
    intro n
    induction n with
    | zero => intro _; rfl
    | succ n ih =>
      intro hn
      have hn' : n < l.length := by omega
      rw [List.take_succ_eq_append_getElem hn', seen_app]
      by_cases hp : part l[n].r.cats m = true
      · rw [if_pos hp]
        obtain ⟨h1, h2, h3⟩ := (store_ok h).2 n hn'
        refine store_app (ih (by omega)) h1 ?_ ?_
        · rw [seen_same hp]
          rw [sameN_step hn', if_pos rfl] at h2
          omega
        · unfold goneBad at h3 ⊢
          cases hg : l[n].gone
          · rfl
          · rw [hg] at h3
            simp only [Bool.true_and, Bool.or_eq_false_iff, decide_eq_false_iff_not] at h3 ⊢
            refine ⟨h3.1, ?_⟩
            have h4 : 0 ≤ livesI (l.take n) l[n].r.id l[n].r.cats := by
              rw [livesI_take (by omega)]
              omega
            have h5 := (seen_lives hp l[n].r.id (l.take n)).2 h4
            unfold livesI at h5
            omega
      · rw [if_neg hp, List.append_nil]
        exact ih (by omega)
  have h1 := key l.length (Nat.le_refl _)
  rwa [List.take_length] at h1
theorem get_lives {l : List Ver} {id : ByteArray} {j : Nat} (hj : j < l.length) (h : getI l id = j) : l[j].gone = false := by
  rcases bestC_at (l := l) (id := id) 256 with h1 | ⟨c, _, h1⟩
  · have : getI l id = -1 := h1
    omega
  · have h2 : livesI l id c = j := h1.symm.trans h
    rcases lives_spec l id c l.length (Nat.le_refl _) with h3 | ⟨k, hk, _, h4, _, h5, _⟩
    · have : livesI l id c = -1 := h3
      omega
    · have h6 : livesI l id c = k := h4
      have : k = j := by omega
      subst this
      exact h5
theorem one_hit {l : List Ver} {id : ByteArray} {j : Nat} (h0 : storeErr l = 0) (hj : j < l.length) (h : getI l id = j) : oneV l id = [l[j]] := by
  obtain ⟨h1, h2⟩ := get_hit h0 hj h
  rw [oneV, if_pos h1, h2]
  have h3 := get_lives hj h
  congr 1
  cases hv : l[j] with
  | mk r g => rw [hv] at h3; simp only at h3; rw [h3]
theorem one_none {l : List Ver} {id : ByteArray} (h0 : storeErr l = 0) (h : getI l id = -1) : oneV l id = [] ∧ getErr l id = 4 := by
  obtain ⟨h1, _⟩ := get_none h0 h
  exact ⟨by rw [oneV, h1]; rfl, h1⟩
theorem sees_range (up : List Int) (l : List Rul) (q : Who) : ((seesV up l q : Nat) : Int) ≤ 255 := by have := seesV_lt up l q; omega
/-- Where who asks may ask, and the store may be. -/
theorem mine_ok {s : Srv} {q : Who} (h : storeErr s.l = 0) (hs : seesErr s.up s.rules q = 0) : mineE s q = 0 ∧ mineV s q = seenL s.l (seesV s.up s.rules q) := by
  have h1 := sees_range s.up s.rules q
  have e : mineE s q = 0 := by
    rw [mineE, if_neg (by simpa using hs), partErr, if_neg (by simpa using h), if_neg (by simp; omega)]
  exact ⟨e, by rw [mineV, if_pos e]⟩
theorem mine_bad {s : Srv} {q : Who} (hs : seesErr s.up s.rules q ≠ 0) : mineE s q = seesErr s.up s.rules q := by rw [mineE, if_pos hs]
end Go.Proofs.WK
