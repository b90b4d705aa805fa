/-
  Stores as plain data (P21 to P24). No program.
-/
import Derived.Test.YtljjiicjnoljbaaDoorRecP
namespace Go.Proofs.WK
/-- The first of f 0 .. f (n - 1) that is not 0. -/
def firstI (f : Nat → Int) : Nat → Int
  | 0 => 0
  | k + 1 => if firstI f k = 0 then f k else firstI f k
theorem firstI_hit {f : Nat → Int} {k n : Nat} (hk : k < n) (h : firstI f k = 0) (h0 : f k ≠ 0) : firstI f n = f k := by
  induction n with
  | zero => omega
  | succ n ih =>
    rcases Nat.lt_or_eq_of_le (Nat.le_of_lt_succ hk) with h1 | h1
    · rw [firstI, ih h1, if_neg h0]
    · subst h1; rw [firstI, if_pos h]
theorem firstI_step {f : Nat → Int} {k : Nat} (h : firstI f k = 0) (h0 : f k = 0) : firstI f (k + 1) = 0 := by rw [firstI, if_pos h, h0]
theorem firstI_none {f : Nat → Int} {n : Nat} (h : firstI f n = 0) : ∀ k, k < n → f k = 0 := by
  induction n with
  | zero => intro k hk; omega
  | succ n ih =>
    rw [firstI] at h
    split at h
    · rename_i h1
      intro k hk
      rcases Nat.lt_or_eq_of_le (Nat.le_of_lt_succ hk) with h2 | h2
      · exact ih h1 k h2
      · subst h2; exact h
    · exact absurd h ‹_›
/-- Is it a version of id with just these kinds? -/
def hitV (v : Ver) (id : ByteArray) (c : Int) : Bool := decide (v.r.id = id) && decide (v.r.cats = c)
/-- Where the last of the first k versions of id with just these kinds stands that lives; -1: none. -/
def livesK (l : List Ver) (id : ByteArray) (c : Int) : Nat → Int
  | 0 => -1
  | k + 1 => match l[k]? with
    | some v => if hitV v id c = true then (if v.gone = true then -1 else (k : Int)) else livesK l id c k
    | none => livesK l id c k
def livesI (l : List Ver) (id : ByteArray) (c : Int) : Int := livesK l id c l.length
theorem livesK_step {l : List Ver} {id : ByteArray} {c : Int} {k : Nat} (hk : k < l.length) : livesK l id c (k + 1) = if hitV l[k] id c = true then (if l[k].gone = true then -1 else (k : Int)) else livesK l id c k := by
  rw [livesK, List.getElem?_eq_getElem hk]
theorem livesK_take {l : List Ver} {id : ByteArray} {c : Int} {n : Nat} : ∀ k, k ≤ n → livesK (l.take n) id c k = livesK l id c k
  | 0, _ => rfl
  | k + 1, h => by
    rw [livesK, livesK, livesK_take k (by omega), List.getElem?_take, if_pos (by omega)]
theorem livesI_take {l : List Ver} {id : ByteArray} {c : Int} {n : Nat} (h : n ≤ l.length) : livesI (l.take n) id c = livesK l id c n := by
  unfold livesI
  rw [List.length_take, Nat.min_eq_left h, livesK_take _ (Nat.le_refl _)]
theorem livesK_lt (l : List Ver) (id : ByteArray) (c : Int) : ∀ k, -1 ≤ livesK l id c k ∧ livesK l id c k < k
  | 0 => by simp [livesK]
  | k + 1 => by
    have ih := livesK_lt l id c k
    rw [livesK]
    split
    · split
      · split <;> omega
      · omega
    · omega
/-- How many versions have just these kinds. -/
def sameN (l : List Ver) (c : Int) : Nat := (l.filter fun v => decide (v.r.cats = c)).length
theorem sameN_step {l : List Ver} {k : Nat} (hk : k < l.length) (c : Int) : sameN (l.take (k + 1)) c = sameN (l.take k) c + if l[k].r.cats = c then 1 else 0 := by
  unfold sameN
  rw [List.take_succ_eq_append_getElem hk, List.filter_append, List.length_append]
  by_cases h : l[k].r.cats = c <;> simp [h]
theorem sameN_le (l : List Ver) (c : Int) : sameN l c ≤ l.length := List.length_filter_le _ _
def goneBad (l : List Ver) (v : Ver) (i : Nat) : Bool := v.gone && (decide (0 < v.r.fields.length) || decide (0 < v.r.refs.length) || decide (livesK l v.r.id v.r.cats i < 0))
def verErr (l : List Ver) (i : Nat) : Int := match l[i]? with
  | none => 0
  | some v => if recErr v.r ≠ 0 then recErr v.r else if 20 < sameN (l.take (i + 1)) v.r.cats then 2 else if goneBad l v i = true then 3 else 0
theorem verErr_at {l : List Ver} {i : Nat} (h : i < l.length) : verErr l i = if recErr l[i].r ≠ 0 then recErr l[i].r else if 20 < sameN (l.take (i + 1)) l[i].r.cats then 2 else if goneBad l l[i] i = true then 3 else 0 := by
  unfold verErr
  rw [List.getElem?_eq_getElem h]
/-- P21. -/
def storeErr (l : List Ver) : Int := if 5120 < l.length then 2 else firstI (verErr l) l.length
theorem store_ok {l : List Ver} (h : storeErr l = 0) : l.length ≤ 5120 ∧ ∀ i (hi : i < l.length), recErr l[i].r = 0 ∧ sameN (l.take (i + 1)) l[i].r.cats ≤ 20 ∧ goneBad l l[i] i = false := by
  unfold storeErr at h
  split at h
  · cases h
  · refine ⟨by omega, fun i hi => ?_⟩
    have h1 := firstI_none h i hi
    rw [verErr_at hi] at h1
    split at h1
    · exact absurd h1 ‹_›
    · split at h1
      · cases h1
      · split at h1
        · cases h1
        · exact ⟨by simpa using ‹¬ recErr _ ≠ 0›, by omega, by simpa using ‹¬ goneBad _ _ _ = true›⟩
theorem store_rec {l : List Ver} (h : storeErr l = 0) : ∀ v ∈ l, recErr v.r = 0 := fun v hv => by
  obtain ⟨i, hi, rfl⟩ := List.getElem_of_mem hv
  exact ((store_ok h).2 i hi).1
/-- Never more than twenty of the same kinds. -/
theorem store_same {l : List Ver} (h : storeErr l = 0) (c : Int) : sameN l c ≤ 20 := by
  have key : ∀ k, k ≤ l.length → sameN (l.take k) c ≤ 20 := by
    intro k
    induction k with
    | zero => intro _; simp [sameN]
    | succ k ih =>
      intro hk
      by_cases hc : l[k].r.cats = c
      · have := ((store_ok h).2 k (by omega)).2.1
        rwa [hc] at this
      · rw [sameN_step (by omega), if_neg hc]
        exact ih (by omega)
  have := key l.length (Nat.le_refl _)
  rwa [List.take_length] at this
/-- P22. -/
def putErr (l : List Ver) (r : Rec) : Int := if storeErr l ≠ 0 then storeErr l else if recErr r ≠ 0 then recErr r else if 20 ≤ sameN l r.cats then 2 else 0
def putV (l : List Ver) (r : Rec) : List Ver := if putErr l r = 0 then l ++ [⟨r, false⟩] else []
/-- P23. -/
def cutErr (l : List Ver) (id : ByteArray) (c : Int) : Int :=
  if storeErr l ≠ 0 then storeErr l else if idOk id = false then 3 else if ¬ (0 ≤ c ∧ c ≤ 255) then 1 else if livesI l id c < 0 then 4 else if 20 ≤ sameN l c then 2 else 0
def cutV (l : List Ver) (id : ByteArray) (c : Int) : List Ver := if cutErr l id c = 0 then l ++ [⟨⟨id, c, [], []⟩, true⟩] else []
end Go.Proofs.WK
