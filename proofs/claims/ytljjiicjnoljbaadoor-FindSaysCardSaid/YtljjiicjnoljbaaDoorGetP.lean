/-
  Stores as plain data (P24 to P29). No program.
-/
import Derived.Test.YtljjiicjnoljbaaDoorStoP
import Derived.Test.YtljjiicjnoljbaaDoorSrtP
namespace Go.Proofs.WK
/-- The last version of id that lives, of the kinds below c; -1: none. -/
def bestC (l : List Ver) (id : ByteArray) : Nat → Int
  | 0 => -1
  | c + 1 => max (bestC l id c) (livesI l id c)
/-- P25. -/
def getI (l : List Ver) (id : ByteArray) : Int := bestC l id 256
theorem bestC_lt (l : List Ver) (id : ByteArray) : ∀ c, -1 ≤ bestC l id c ∧ bestC l id c < l.length
  | 0 => by simp [bestC]; omega
  | c + 1 => by
    have ih := bestC_lt l id c
    have h := livesK_lt l id c l.length
    unfold bestC livesI
    omega
theorem getI_lt (l : List Ver) (id : ByteArray) : -1 ≤ getI l id ∧ getI l id < l.length := bestC_lt l id 256
theorem bestC_ge {l : List Ver} {id : ByteArray} {c n : Nat} (h : c < n) : livesI l id c ≤ bestC l id n := by
  induction n with
  | zero => omega
  | succ n ih =>
    unfold bestC
    by_cases hc : c = n
    · subst hc; omega
    · have := ih (by omega); omega
theorem bestC_le {l : List Ver} {id : ByteArray} {b : Int} (h0 : -1 ≤ b) (h : ∀ c : Nat, c < 256 → livesI l id c ≤ b) : ∀ n, n ≤ 256 → bestC l id n ≤ b
  | 0, _ => h0
  | n + 1, hn => by
    have := bestC_le h0 h n (by omega)
    have := h n (by omega)
    unfold bestC
    omega
theorem bestC_at {l : List Ver} {id : ByteArray} : ∀ n, bestC l id n = -1 ∨ ∃ c : Nat, c < n ∧ bestC l id n = livesI l id c
  | 0 => .inl rfl
  | n + 1 => by
    unfold bestC
    rcases bestC_at (l := l) (id := id) n with h | ⟨c, hc, h⟩
    · rw [h]
      have := (livesK_lt l id n l.length).1
      by_cases h2 : livesI l id n = -1
      · left; rw [h2]; rfl
      · right
        refine ⟨n, by omega, ?_⟩
        unfold livesI at *
        omega
    · by_cases h2 : livesI l id c ≤ livesI l id n
      · exact .inr ⟨n, by omega, by omega⟩
      · exact .inr ⟨c, by omega, by omega⟩
/-- Where the last that lives stands: told by what stands there, and behind it. -/
theorem lives_at {l : List Ver} {id : ByteArray} {c : Int} {j : Nat} (hj : j < l.length) (hh : hitV l[j] id c = true) (hg : l[j].gone = false) (hn : ∀ k (h : k < l.length), j < k → hitV l[k] id c = false) : livesI l id c = j := by
  have key : ∀ n, j < n → n ≤ l.length → livesK l id c n = j := by
    intro n
    induction n with
    | zero => intro h; omega
    | succ n ih =>
      intro h1 h2
      rw [livesK_step (by omega)]
      rcases Nat.lt_or_eq_of_le (Nat.le_of_lt_succ h1) with h3 | h3
      · rw [hn n (by omega) h3, if_neg (by simp)]
        exact ih h3 (by omega)
      · subst h3
        rw [if_pos hh, hg]
        rfl
  exact key _ hj (Nat.le_refl _)
theorem lives_spec (l : List Ver) (id : ByteArray) (c : Int) : ∀ n, n ≤ l.length → livesK l id c n = -1 ∨ ∃ j, ∃ h : j < l.length, j < n ∧ livesK l id c n = j ∧ hitV l[j] id c = true ∧ l[j].gone = false ∧ ∀ k (h : k < l.length), j < k → k < n → hitV l[k] id c = false
  | 0, _ => .inl rfl
  | n + 1, hn => by
    rw [livesK_step (by omega)]
    by_cases hh : hitV l[n] id c = true
    · rw [if_pos hh]
      cases hg : l[n].gone
      · exact .inr ⟨n, by omega, by omega, rfl, hh, hg, fun k _ h1 h2 => by omega⟩
      · exact .inl rfl
    · rw [if_neg hh]
      rcases lives_spec l id c n (by omega) with h | ⟨j, hj, h1, h2, h3, h4, h5⟩
      · exact .inl h
      · refine .inr ⟨j, hj, by omega, h2, h3, h4, fun k hk a b => ?_⟩
        rcases Nat.lt_or_eq_of_le (Nat.le_of_lt_succ b) with h6 | h6
        · exact h5 k hk a h6
        · subst h6; simpa using hh
/-- The search from behind: what stands from m on is done. -/
structure GetAt (l : List Ver) (id : ByteArray) (m : Nat) : Prop where
  below : ∀ c : Nat, c < 256 → livesI l id c < m
/-- Has a version from m on the kinds c? -/
def goneF (l : List Ver) (id : ByteArray) (m : Nat) (c : Int) : Option Bool := if (l.drop m).any (fun v => hitV v id c) = true then some true else none
theorem GetAt.start (l : List Ver) (id : ByteArray) : GetAt l id l.length := ⟨fun c _ => (livesK_lt l id c l.length).2⟩
theorem any_hit {l : List Ver} {id : ByteArray} {m : Nat} {c : Int} : (l.drop m).any (fun v => hitV v id c) = true ↔ ∃ k, ∃ h : k < l.length, m ≤ k ∧ hitV l[k] id c = true := by
  rw [List.any_eq_true]
  constructor
  · rintro ⟨v, hv, hh⟩
    obtain ⟨i, hi, rfl⟩ := List.getElem_of_mem hv
    rw [List.getElem_drop] at hh
    exact ⟨m + i, by simp at hi; omega, by omega, hh⟩
  · rintro ⟨k, hk, hm, hh⟩
    refine ⟨l[k], ?_, hh⟩
    have : l[k] = (l.drop m)[k - m]'(by simp; omega) := by rw [List.getElem_drop]; congr 1; omega
    rw [this]
    exact List.getElem_mem _
theorem goneF_drop {l : List Ver} {j : Nat} (hj : j < l.length) (id : ByteArray) (c : Int) : goneF l id j c = if hitV l[j] id c = true then some true else goneF l id (j + 1) c := by
  unfold goneF
  rw [List.drop_eq_getElem_cons hj, List.any_cons]
  cases hitV l[j] id c <;> simp
theorem GetAt.other {l : List Ver} {id : ByteArray} {j : Nat} (h : GetAt l id (j + 1)) (hj : j < l.length) (hno : ∀ c : Nat, c < 256 → hitV l[j] id c = true → l[j].gone = true ∨ goneF l id (j + 1) c = some true) : GetAt l id j := by
  refine ⟨fun c hc => ?_⟩
  have h1 := h.below c hc
  rcases lives_spec l id c l.length (Nat.le_refl _) with h2 | ⟨k, hk, h3, h4, h5, h6, h7⟩
  · have e : livesI l id c = -1 := h2
    omega
  · have e : livesI l id c = k := h4
    rw [e] at h1 ⊢
    by_cases hkj : k = j
    · subst hkj
      rcases hno c hc h5 with h8 | h8
      · rw [h6] at h8; cases h8
      · unfold goneF at h8
        split at h8
        · rename_i h9
          obtain ⟨n, hn, h10, h11⟩ := any_hit.1 h9
          rw [h7 n hn (by omega) hn] at h11
          cases h11
        · cases h8
    · omega
/-- It is found. -/
theorem GetAt.hit {l : List Ver} {id : ByteArray} {j : Nat} (h : GetAt l id (j + 1)) (hj : j < l.length) {c : Nat} (hc : c < 256) (hh : hitV l[j] id c = true) (hg : l[j].gone = false) (hn : goneF l id (j + 1) c = none) : getI l id = j := by
  have e : livesI l id c = j := lives_at hj hh hg fun k hk hjk => by
    cases h1 : hitV l[k] id c
    · rfl
    · unfold goneF at hn
      rw [if_pos (any_hit.2 ⟨k, hk, hjk, h1⟩)] at hn
      cases hn
  refine Int.le_antisymm (bestC_le (by omega) (fun c' hc' => by have := h.below c' hc'; omega) 256 (Nat.le_refl _)) ?_
  have := bestC_ge (l := l) (id := id) (n := 256) hc
  rw [e] at this
  exact this
theorem GetAt.none {l : List Ver} {id : ByteArray} (h : GetAt l id 0) : getI l id = -1 :=
  Int.le_antisymm (bestC_le (by omega) (fun c hc => by have := h.below c hc; omega) 256 (Nat.le_refl _)) (getI_lt l id).1
def noRec : Rec := ⟨⟨#[]⟩, 0, [], []⟩
def getErr (l : List Ver) (id : ByteArray) : Int := if storeErr l ≠ 0 then storeErr l else if getI l id < 0 then 4 else 0
/-- P25: the record. -/
def getR (l : List Ver) (id : ByteArray) : Rec := if getErr l id = 0 then (l[(getI l id).toNat]?).elim noRec (·.r) else noRec
theorem get_hit {l : List Ver} {id : ByteArray} {j : Nat} (h0 : storeErr l = 0) (hj : j < l.length) (h : getI l id = j) : getErr l id = 0 ∧ getR l id = l[j].r := by
  have e : getErr l id = 0 := by rw [getErr, if_neg (by simpa using h0), h, if_neg (by omega)]
  refine ⟨e, ?_⟩
  rw [getR, if_pos e, h, Int.toNat_natCast, List.getElem?_eq_getElem hj]
  rfl
theorem get_none {l : List Ver} {id : ByteArray} (h0 : storeErr l = 0) (h : getI l id = -1) : getErr l id = 4 ∧ getR l id = noRec := by
  have e : getErr l id = 4 := by rw [getErr, if_neg (by simpa using h0), h]; rfl
  exact ⟨e, by rw [getR, e]; rfl⟩
end Go.Proofs.WK
