/-
  A region that draws its order, its operations' values as one list: what has come up has its value. No program.
-/
import Derived.Test.YtljjiicjnoljbaaGreatDoorAppR
namespace Go.Proofs.WK
/-- Values laid into slots. -/
def putAll (A : Act) : List (Option Nat) → List Value → Act
  | d :: ds, v :: vs => putAll (A.put d v) ds vs
  | _, _ => A
/-- What has come up has its value. -/
def Got (L : Array Bool) (us vs : List Value) : Prop := us.length = vs.length ∧ ∀ k : Nat, L[k]? = some true → us[k]? = vs[k]?
theorem Got.init {n : Nat} {us vs : List Value} (h : us.length = vs.length) : Got (Array.replicate n false) us vs :=
  ⟨h, fun k hk => by rw [Array.getElem?_replicate] at hk; split at hk <;> simp at hk⟩
theorem Got.at_ {L : Array Bool} {us vs : List Value} (h : Got L us vs) (k : Nat) {u v : Value} (hk : L[k]? = some true) (hu : us[k]? = some u) (hv : vs[k]? = some v) : u = v := by
  have := h.2 k hk
  rw [hu, hv] at this
  injection this
theorem Got.set {L : Array Bool} {us vs : List Value} (h : Got L us vs) (k : Nat) {v : Value} (hv : vs[k]? = some v) : Got (L.setIfInBounds k true) (us.set k v) vs := by
  refine ⟨by rw [List.length_set]; exact h.1, fun j hj => ?_⟩
  by_cases e : k = j
  · subst e
    have hl := (List.getElem?_eq_some_iff.1 hv).1
    rw [List.getElem?_set_self (by rw [h.1]; exact hl), hv]
  · rw [List.getElem?_set_ne e]
    rw [Array.getElem?_setIfInBounds_ne e] at hj
    exact h.2 j hj
/-- An operation whose value is not in the list. -/
theorem Got.skip {L : Array Bool} {us vs : List Value} (h : Got L us vs) (k : Nat) (hk : us[k]? = vs[k]?) : Got (L.setIfInBounds k true) us vs := by
  refine ⟨h.1, fun j hj => ?_⟩
  by_cases e : k = j
  · subst e; exact hk
  · rw [Array.getElem?_setIfInBounds_ne e] at hj
    exact h.2 j hj
/-- All below n have come up. -/
theorem Got.all {L : Array Bool} {us vs : List Value} (h : Got L us vs) {n : Nat} (hn : n = vs.length) (ha : ∀ j, j < n → L[j]? = some true) : us = vs := by
  refine List.ext_getElem? fun k => ?_
  by_cases hk : k < n
  · exact h.2 k (ha k hk)
  · rw [List.getElem?_eq_none (by have := h.1; omega), List.getElem?_eq_none (by omega)]
theorem upNe {L : Array Bool} {i j : Nat} {b : Bool} (h : i ≠ j) (h1 : L[j]? = some b) : (L.setIfInBounds i true)[j]? = some b := by
  rwa [Array.getElem?_setIfInBounds_ne h]
theorem upMono {L : Array Bool} {i j : Nat} (h : L[j]? = some true) : (L.setIfInBounds i true)[j]? = some true := by
  by_cases e : i = j
  · subst e
    have := (Array.getElem?_eq_some_iff.1 h).1
    simp [this]
  · rw [Array.getElem?_setIfInBounds_ne e]
    exact h
theorem upHit {L : Array Bool} {j : Nat} (h : j < L.size) : (L.setIfInBounds j true)[j]? = some true := by simp [h]
end Go.Proofs.WK
namespace Go.Proofs.WK
/-- What the slots hold. -/
def held (A : Act) (ds : List (Option Nat)) : List Value := ds.map fun d => match d with
  | some k => A.tmps[k]?.getD undef
  | none => undef
theorem put_held (A : Act) (d : Option Nat) : A.put d (match d with | some k => A.tmps[k]?.getD undef | none => undef) = A := by
  cases d with
  | none => rfl
  | some k =>
    cases A with
    | mk tmps defers =>
      show Act.mk (tmps.setIfInBounds k (tmps[k]?.getD undef)) defers = Act.mk tmps defers
      congr 1
      refine Array.ext_getElem? fun j => ?_
      rw [Array.getElem?_setIfInBounds]
      split
      · rename_i h
        subst h
        split
        · rename_i h1
          rw [Array.getElem?_eq_getElem h1]
          rfl
        · rename_i h1
          rw [Array.getElem?_eq_none (by omega)]
      · rfl
theorem putAll_held (A : Act) : ∀ ds : List (Option Nat), putAll A ds (held A ds) = A
  | [] => rfl
  | d :: ds => by
    show putAll (A.put d _) ds (held A ds) = A
    rw [put_held]
    exact putAll_held A ds
theorem held_len (A : Act) (ds : List (Option Nat)) : (held A ds).length = ds.length := List.length_map ..
theorem cons_of {α : Type} {l : List α} {n : Nat} (h : l.length = n + 1) : ∃ x t, l = x :: t ∧ t.length = n := by
  cases l with
  | nil => cases h
  | cons x t => exact ⟨x, t, rfl, by simpa using h⟩
theorem mid_get {α : Type} : ∀ (pre post : List α) (v v' : α) (j : Nat), j ≠ pre.length → (pre ++ v :: post)[j]? = (pre ++ v' :: post)[j]?
  | [], _, _, _, 0, h => absurd rfl h
  | [], _, _, _, _ + 1, _ => rfl
  | _ :: _, _, _, _, 0, _ => rfl
  | _ :: pre, post, v, v', j + 1, h => mid_get pre post v v' j fun e => h (by rw [e]; rfl)
/-- A target is changed where nothing has come up. -/
theorem Got.swap {L : Array Bool} {us vs vs' : List Value} (h : Got L us vs) (hl : vs'.length = vs.length) (k : Nat) (hk : L[k]? ≠ some true) (he : ∀ j, j ≠ k → vs'[j]? = vs[j]?) : Got L us vs' :=
  ⟨by rw [hl]; exact h.1, fun j hj => by
    have hne : j ≠ k := fun e => hk (e ▸ hj)
    rw [he j hne]
    exact h.2 j hj⟩
/-- One block is made (operation b), a row grows (p), the grown row is stored (s). -/
def Ph (b p s : Nat) (W0 W1 : World) (Post : Value → World → Prop) (fin : Value → World → World) (L : Array Bool) (w : World) (v : Value) : Prop :=
  (L[b]? = some false ∧ L[p]? = some false ∧ L[s]? = some false ∧ w = W0) ∨ (L[b]? = some true ∧ L[p]? = some false ∧ L[s]? = some false ∧ w = W1) ∨ (L[b]? = some true ∧ L[p]? = some true ∧ L[s]? = some false ∧ Post v w) ∨ (L[b]? = some true ∧ L[p]? = some true ∧ L[s]? = some true ∧ ∃ w8, Post v w8 ∧ w = fin v w8)
section
variable {b p s : Nat} {W0 W1 : World} {Post : Value → World → Prop} {fin : Value → World → World} {L : Array Bool} {w : World} {v : Value}
theorem Ph.start {n : Nat} (hb : b < n) (hp : p < n) (hs : s < n) (v : Value) : Ph b p s W0 W1 Post fin (Array.replicate n false) W0 v :=
  .inl ⟨by simp [hb], by simp [hp], by simp [hs], rfl⟩
theorem Ph.other (h : Ph b p s W0 W1 Post fin L w v) (i : Nat) (h1 : i ≠ b) (h2 : i ≠ p) (h3 : i ≠ s) : Ph b p s W0 W1 Post fin (L.setIfInBounds i true) w v := by
  unfold Ph
  rw [Array.getElem?_setIfInBounds_ne h1, Array.getElem?_setIfInBounds_ne h2, Array.getElem?_setIfInBounds_ne h3]
  exact h
theorem Ph.early (h : Ph b p s W0 W1 Post fin L w v) (hp : L[p]? ≠ some true) : w = W0 ∨ w = W1 := by
  rcases h with h | h | h | h
  · exact .inl h.2.2.2
  · exact .inr h.2.2.2
  · exact absurd h.2.1 hp
  · exact absurd h.2.1 hp
theorem Ph.first (h : Ph b p s W0 W1 Post fin L w v) (hb : L[b]? ≠ some true) : w = W0 := by
  rcases h with h | h | h | h
  · exact h.2.2.2
  · exact absurd h.1 hb
  · exact absurd h.1 hb
  · exact absurd h.1 hb
theorem Ph.make (h : Ph b p s W0 W1 Post fin L w v) (hL : b < L.size) (h1 : b ≠ p) (h2 : b ≠ s) (hb : L[b]? = some false) : w = W0 ∧ Ph b p s W0 W1 Post fin (L.setIfInBounds b true) W1 v := by
  have hn : L[b]? ≠ some true := by rw [hb]; simp
  refine ⟨h.first hn, ?_⟩
  rcases h with h | h | h | h
  · refine .inr (.inl ⟨upHit hL, upNe h1 h.2.1, upNe h2 h.2.2.1, rfl⟩)
  · exact absurd h.1 hn
  · exact absurd h.1 hn
  · exact absurd h.1 hn
theorem Ph.grow (h : Ph b p s W0 W1 Post fin L w v) (hL : p < L.size) (h1 : p ≠ b) (h2 : p ≠ s) (hb : L[b]? = some true) (hp : L[p]? = some false) : w = W1 ∧ ∀ v1 w1, Post v1 w1 → Ph b p s W0 W1 Post fin (L.setIfInBounds p true) w1 v1 := by
  have hn : L[p]? ≠ some true := by rw [hp]; simp
  rcases h with h | h | h | h
  · rw [hb] at h
    exact absurd h.1 (by simp)
  · exact ⟨h.2.2.2, fun v1 w1 hp1 => .inr (.inr (.inl ⟨upNe h1 h.1, upHit hL, upNe h2 h.2.2.1, hp1⟩))⟩
  · exact absurd h.2.1 hn
  · exact absurd h.2.1 hn
theorem Ph.store (h : Ph b p s W0 W1 Post fin L w v) (hL : s < L.size) (h1 : s ≠ b) (h2 : s ≠ p) (hp : L[p]? = some true) (hs : L[s]? = some false) : Post v w ∧ Ph b p s W0 W1 Post fin (L.setIfInBounds s true) (fin v w) v := by
  have hn : L[s]? ≠ some true := by rw [hs]; simp
  rcases h with h | h | h | h
  · rw [hp] at h
    exact absurd h.2.1 (by simp)
  · rw [hp] at h
    exact absurd h.2.1 (by simp)
  · exact ⟨h.2.2.2, .inr (.inr (.inr ⟨upNe h1 h.1, upNe h2 h.2.1, upHit hL, w, h.2.2.2, rfl⟩))⟩
  · exact absurd h.2.2.1 hn
theorem Ph.done (h : Ph b p s W0 W1 Post fin L w v) (hs : L[s]? = some true) : ∃ w8, Post v w8 ∧ w = fin v w8 := by
  rcases h with h | h | h | h
  · rw [hs] at h
    exact absurd h.2.2.1 (by simp)
  · rw [hs] at h
    exact absurd h.2.2.1 (by simp)
  · rw [hs] at h
    exact absurd h.2.2.1 (by simp)
  · exact h.2.2.2
end
end Go.Proofs.WK
