/-
  What TopTorn says to its servers, and what its log says, in plain Lean. No walk.
-/
import Derived.Test.YtljjiicjnoljbaaGreatDoorTornP
import Derived.Test.YtljjiicjnoljbaaGreatDoorTop0
import Derived.Test.YtljjiicjnoljbaaGreatDoorLogW0
namespace Go.Proofs.WK
/-- A server that has done all that a log says. -/
def rep (l : List OpV) : Srv := l.foldl (fun s o => (doS s (plainO o)).1) srv0
theorem rep_nil : rep [] = srv0 := rfl
theorem rep_snoc (l : List OpV) (o : OpV) : rep (l ++ [o]) = (doS (rep l) (plainO o)).1 := by simp [rep]
theorem plain_do {s : Srv} {o : OpV} (hk : o.kind = 2 ∨ o.kind = 3) : doS s (plainO o) = doS s o := by
  rcases hk with hk | hk
  · have e : plainO o = { opNo with kind := 2, who := o.who, r := o.r } := if_pos hk
    rw [e, doS_put hk, doS_put rfl]
    rfl
  · have e : plainO o = { opNo with kind := 3, who := o.who, r := { noRec with cats := o.r.cats }, id := o.id } := if_neg (by omega)
    rw [e, doS_cut hk, doS_cut rfl]
    rfl
/-- A log of a server that has done what it says: all of it could be done. -/
structure LogOk (l : List OpV) : Prop where
  told : ∀ o ∈ l, Told2 o
  did : ∀ k (h : k < l.length), (doS (rep (l.take k)) (plainO l[k])).2.code = 0
theorem LogOk.nil : LogOk [] := ⟨fun o ho => (List.not_mem_nil ho).elim, fun k h => absurd h (Nat.not_lt_zero _)⟩
theorem LogOk.snoc {l : List OpV} {o : OpV} (h : LogOk l) (ho : Told2 o) (hd : (doS (rep l) (plainO o)).2.code = 0) : LogOk (l ++ [o]) := by
  refine ⟨fun x hx => ?_, fun k hk => ?_⟩
  · rcases List.mem_append.1 hx with hx | hx
    · exact h.told x hx
    · rw [List.mem_singleton.1 hx]; exact ho
  · by_cases h1 : k < l.length
    · rw [List.take_append_of_le_length (by omega), List.getElem_append_left h1]
      exact h.did k h1
    · obtain rfl : k = l.length := by simp at hk; omega
      rw [List.take_append_of_le_length (Nat.le_refl _), List.take_length]
      simp only [List.getElem_append_right (Nat.le_refl _), Nat.sub_self, List.getElem_cons_zero]
      exact hd
theorem LogOk.take {l : List OpV} (h : LogOk l) (k : Nat) : LogOk (l.take k) := by
  refine ⟨fun o ho => h.told o (List.mem_of_mem_take ho), fun j hj => ?_⟩
  have h1 : j < k := by rw [List.length_take] at hj; omega
  have h2 : j < l.length := by rw [List.length_take] at hj; omega
  rw [List.take_take, Nat.min_eq_left (by omega), List.getElem_take]
  exact h.did j h2
theorem who_range {q : Who} (h : whoOk q = true) : (0 ≤ q.role ∧ q.role ≤ 7) ∧ (0 ≤ q.why ∧ q.why ≤ 3) ∧ 0 ≤ q.time ∧ q.time ≤ 999 := by
  unfold whoOk at h
  simp at h
  omega
/-- One thing more is said to a server: it is not done; or it changes nothing, and is not written; or it is done, and written. -/
theorem torn_step {l : List OpV} {o : OpV} (hl : LogOk l) (ho : OpFit o) (hk : o.kind ≠ 1) :
    ((doS (rep l) o).2.code ≠ 0 ∧ (doS (rep l) o).1 = rep l) ∨ ((doS (rep l) o).2.code = 0 ∧ logErr o ≠ 0 ∧ (doS (rep l) o).1 = rep l) ∨ ((doS (rep l) o).2.code = 0 ∧ logErr o = 0 ∧ Told2 o ∧ LogOk (l ++ [o]) ∧ (doS (rep l) o).1 = rep (l ++ [o])) := by
  obtain ⟨w1, w2, w3⟩ := who_range ho.who
  by_cases h23 : o.kind = 2 ∨ o.kind = 3
  · by_cases hc : (doS (rep l) o).2.code = 0
    · right; right
      have hle : logErr o = 0 := by
        unfold logErr
        rcases h23 with h2 | h3
        · rw [if_neg hk, if_pos h2, if_pos ho.who]
          rw [doS_put h2] at hc
          have h0 : putE (rep l) o = 0 := hc
          unfold putE at h0
          split at h0
          · omega
          · omega
        · rw [if_neg hk, if_neg (by omega), if_pos h3, if_pos ⟨ho.who, by have := ho.cats; omega⟩]
          rw [doS_cut h3] at hc
          have h0 : cutE (rep l) o = 0 := hc
          have h1 := cutE_ok h0
          unfold cutErr at h1
          split at h1
          · omega
          · split at h1
            · omega
            · rw [if_pos (by simpa using ‹¬ idOk o.id = false›)]
      have h2 : Told2 o := ⟨h23, hle, w1, w2, w3⟩
      refine ⟨hc, hle, h2, hl.snoc h2 ?_, ?_⟩
      · rw [plain_do h23]
        exact hc
      · rw [rep_snoc, plain_do h23]
    · left
      refine ⟨hc, ?_⟩
      rcases h23 with h2 | h3
      · rw [doS_put h2] at hc ⊢
        exact if_neg hc
      · rw [doS_cut h3] at hc ⊢
        exact if_neg hc
  · have h456 : o.kind = 4 ∨ o.kind = 5 ∨ o.kind = 6 := by rcases ho.kind with h | h | h | h | h | h <;> omega
    have h1 : (doS (rep l) o).1 = rep l := by rw [doS_look h456]
    by_cases hc : (doS (rep l) o).2.code = 0
    · right; left
      refine ⟨hc, ?_, h1⟩
      unfold logErr
      rw [if_neg hk, if_neg (by omega), if_neg (by omega)]
      decide
    · exact .inl ⟨hc, h1⟩
/-- What a log says leaves a store that may be. -/
theorem rep_store : ∀ (n : Nat) (l : List OpV), l.length = n → LogOk l → storeErr (rep l).l = 0
  | 0, l, hn, _ => by
    rw [List.length_eq_zero_iff.1 hn]
    decide
  | n + 1, l, hn, h => by
    obtain ⟨l0, o, rfl⟩ : ∃ l0 o, l = l0 ++ [o] := ⟨l.dropLast, l.getLast (by intro e; rw [e] at hn; cases hn), (List.dropLast_concat_getLast _).symm⟩
    have hn0 : l0.length = n := by simpa using hn
    have h0 : LogOk l0 := by
      have := h.take l0.length
      rwa [List.take_left' rfl] at this
    have ih := rep_store n l0 hn0 h0
    have ho := h.told o (by simp)
    rw [rep_snoc, plain_do ho.kind]
    rcases ho.kind with h2 | h3
    · rw [doS_put h2]
      show storeErr (if putE (rep l0) o = 0 then { rep l0 with l := putV (rep l0).l o.r } else rep l0).l = 0
      split
      · rename_i he
        have hp := putE_ok he
        show storeErr (putV (rep l0).l o.r) = 0
        rw [putV_ok hp]
        exact put_ok ih hp
      · exact ih
    · rw [doS_cut h3]
      show storeErr (if cutE (rep l0) o = 0 then { rep l0 with l := cutV (rep l0).l o.id o.r.cats } else rep l0).l = 0
      split
      · rename_i he
        have hp := cutE_ok he
        show storeErr (cutV (rep l0).l o.id o.r.cats) = 0
        rw [cutV_ok hp]
        exact cut_ok ih hp
      · exact ih
/-- A line is short. -/
theorem line_small {o : OpV} (h : Told2 o) : (lineL o).length ≤ 400 := by
  have hw : ∀ n ∈ whoN o, -9223372036854775808 ≤ n ∧ n ≤ 9223372036854775807 := by
    have h1 := h.role
    have h2 := h.why
    have h3 := h.time
    intro n hn
    simp only [whoN, List.mem_cons, List.not_mem_nil, or_false] at hn
    rcases hn with rfl | rfl | rfl <;> omega
  have hn := nums_len _ hw
  have h3 : (whoN o).length = 3 := rfl
  have hs := sum_range (plainS o)
  have hi := Lib.itoa_length_le (sumV (plainS o)) (by omega) (by omega)
  have hp : (plainS o).data.toList.length ≤ 330 := by
    unfold plainS
    rw [bs_data]
    unfold plainL
    rcases h.kind with h2 | h2
    · rw [if_pos h2]
      have hr := recS_size o.r
      have e : (recS o.r).data.toList.length = (recS o.r).size := Array.length_toList
      simp only [List.length_append, List.length_cons, List.length_nil]
      omega
    · rw [if_neg (by omega), if_pos h2]
      have hc := (h.cut h2).1
      have h8 := (idOk_size (h.cut h2).2).2
      have e : o.id.data.toList.length = o.id.size := Array.length_toList
      have hcn := nums_len [o.r.cats] (by intro n hn; simp at hn; subst hn; omega)
      simp only [List.length_append, List.length_cons, List.length_nil] at hcn ⊢
      omega
  unfold lineL
  simp only [List.length_append, List.length_cons]
  omega
theorem lines_small : ∀ {l : List OpV}, (∀ o ∈ l, Told2 o) → (linesL l).length ≤ 401 * l.length
  | [], _ => Nat.le_refl _
  | o :: l, h => by
    have h1 := line_small (h o (List.mem_cons_self ..))
    have h2 := lines_small fun x hx => h x (List.mem_cons_of_mem o hx)
    rw [linesL_cons]
    simp only [List.length_append, List.length_cons]
    omega
/-- The stores that have been. -/
def wasV (l : List OpV) : List (List Ver) := (List.range (l.length + 1)).map fun k => (rep (l.take k)).l
theorem wasV_nil : wasV [] = [[]] := rfl
theorem wasV_snoc (l : List OpV) (o : OpV) : wasV (l ++ [o]) = wasV l ++ [(rep (l ++ [o])).l] := by
  unfold wasV
  rw [List.length_append, List.length_singleton, List.range_succ, List.map_append, List.map_singleton]
  congr 1
  · apply List.map_congr_left
    intro k hk
    rw [List.mem_range] at hk
    rw [List.take_append_of_le_length (by omega)]
  · rw [List.take_of_length_le (by simp)]
theorem wasV_len (l : List OpV) : (wasV l).length = l.length + 1 := by simp [wasV]
theorem wasV_at {l : List OpV} {k : Nat} (hk : k < (wasV l).length) : (wasV l)[k] = (rep (l.take k)).l := by simp [wasV]
end Go.Proofs.WK
