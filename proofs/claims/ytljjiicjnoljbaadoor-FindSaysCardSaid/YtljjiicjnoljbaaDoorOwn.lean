/-
  Rows of the call's own, written in place: one element, and what lies behind a cut. No program.
-/
import Derived.Test.YtljjiicjnoljbaaDoorWk
import Derived.Test.YtljjiicjnoljbaaDoorBox
import Derived.Laws.IdiomCopy
import Derived.Deep.Upon
namespace Go.Proofs.WK
open Go.RowKit Rp
/-- cs, from place o on written over with vs. -/
def over (cs : List Value) : Nat → List Value → List Value
  | _, [] => cs
  | o, v :: r => over (cs.set o v) (o + 1) r
theorem over_length (cs : List Value) : ∀ (vs : List Value) (o : Nat), (over cs o vs).length = cs.length := by
  intro vs
  induction vs generalizing cs with
  | nil => intro o; rfl
  | cons v r ih => intro o; rw [over, ih, List.length_set]
theorem over_get : ∀ (vs : List Value) (cs : List Value) (o j : Nat), (over cs o vs)[j]? = if o ≤ j ∧ j < o + vs.length ∧ j < cs.length then vs[j - o]? else cs[j]?
  | [], cs, o, j => by
    rw [over, if_neg (by simp; omega)]
  | v :: r, cs, o, j => by
    rw [over, over_get r (cs.set o v) (o + 1) j, List.length_set]
    by_cases h1 : j = o
    · subst h1
      rw [if_neg (by omega)]
      by_cases h2 : j < cs.length
      · rw [if_pos ⟨Nat.le_refl _, by simp, h2⟩]; simp [h2]
      · rw [List.getElem?_eq_none (by rw [List.length_set]; omega), if_neg (by omega), List.getElem?_eq_none (by omega)]
    · by_cases h2 : o + 1 ≤ j ∧ j < o + 1 + r.length ∧ j < cs.length
      · rw [if_pos h2, if_pos ⟨by omega, by simp; omega, h2.2.2⟩, show j - o = (j - (o + 1)) + 1 by omega, List.getElem?_cons_succ]
      · rw [if_neg h2, if_neg (by simp; omega), List.getElem?_set, if_neg (by omega)]
/-- Block g, with its type. -/
def Bt (w : World) (g : Nat) (t : TypeId) (cs : List Value) : Prop := w.heap[g]? = some (.cells cs.toArray t (0, 0))
theorem Bt.lt {w : World} {g : Nat} {t : TypeId} {cs : List Value} (h : Bt w g t cs) : g < w.heap.size := (Array.getElem?_eq_some_iff.1 h).1
theorem Bt.set {w : World} {g : Nat} {t : TypeId} {cs : List Value} (h : Bt w g t cs) (o : Nat) (u : Value) : Bt (w.setCell ⟨g, o, none⟩ u) g t (cs.set o u) := by
  unfold Bt at h ⊢
  obtain ⟨hlt, hk⟩ := Array.getElem?_eq_some_iff.1 h
  show (w.heap.modify g _)[g]? = _
  rw [Array.getElem?_eq_getElem (by rw [Array.size_modify]; exact hlt), Array.getElem_modify_self, hk]
  simp
theorem Bt.sets {g : Nat} {t : TypeId} : ∀ (vs : List Value) {w : World} {cs : List Value} (o : Nat), Bt w g t cs → Bt (w.setCells g o vs) g t (over cs o vs)
  | [], _, _, _, h => h
  | v :: r, _, _, o, h => Bt.sets r (o + 1) (h.set o v)
theorem Bt.cell {w : World} {g : Nat} {t : TypeId} {cs : List Value} (h : Bt w g t cs) (o : Nat) : w.cell? ⟨g, o, none⟩ = cs[o]? := by
  unfold Bt at h
  simp [World.cell?, h]
theorem Bt.frozen {w : World} {g : Nat} {t : TypeId} {cs : List Value} (h : Bt w g t cs) (o : Nat) : w.frozen? ⟨g, o, none⟩ = false := by
  unfold Bt at h
  simp [World.frozen?, h]
theorem grown_setCells (w : World) (g o : Nat) (vs : List Value) : w.grownBy (w.setCells g o vs) (some g) := by
  have hsz : ∀ (vs : List Value) (o : Nat) (w : World), w.grownBy (w.setCells g o vs) (some g) := by
    intro vs
    induction vs with
    | nil => intro o w; exact World.grownBy.refl w _
    | cons v r ih =>
      intro o w
      have h1 : w.grownBy (w.setCell ⟨g, o, none⟩ v) (some g) :=
        ⟨rfl, rfl, rfl, by show w.heap.size ≤ (w.heap.modify _ _).size; rw [Array.size_modify]; exact Nat.le_refl _, fun k _ hne => Below.heap_setCell w _ _ k (fun e => hne (by rw [e]))⟩
      exact h1.trans (ih (o + 1) _)
  exact hsz vs o w
namespace Rp
variable {α : Type} {d : Rp α} {w : World} {base : Nat} {ok : Nat → Prop} {e : TypeId} {xs : List α}
theorem own_open {ad : Addr} {n c : Nat} (h : d.Own e w base ok (.slice (some ad) n c) xs) : ∃ g cs, ad = ⟨g, 0, none⟩ ∧ n = xs.length ∧ base ≤ g ∧ Bt w g e cs ∧ n ≤ c ∧ c ≤ maxLen ∧ cs.length = c * d.sz ∧ Reps (d.K w (fun k => ok k ∧ some k ≠ some g)) d.sz xs (cs.take (n * d.sz)) := by
  obtain ⟨inner, ho, hr⟩ := h
  rcases ho.2 with ⟨e1, _⟩ | ⟨g, cap, cur, hv, hb, hh, h1, h2, h3, h4⟩
  · cases e1
  · injection hv with hv1 hv2 hv3
    injection hv1 with hv1
    subst hv1 hv2 hv3
    refine ⟨g, cur.toList, rfl, rfl, hb, by unfold Bt; simpa using hh, h1, h2, by simpa using h3, ?_⟩
    rw [h4]
    exact hr
theorem own_shut {g n c : Nat} {cs : List Value} (hb : base ≤ g) (hB : Bt w g e cs) (hn : n = xs.length) (h1 : n ≤ c) (h2 : c ≤ maxLen) (h3 : cs.length = c * d.sz) (hr : Reps (d.K w (fun k => ok k ∧ some k ≠ some g)) d.sz xs (cs.take (n * d.sz))) :
    d.Own e w base ok (.slice (some ⟨g, 0, none⟩) n c) xs := by
  subst hn
  exact ⟨_, ⟨hr.1, .inr ⟨g, c, cs.toArray, rfl, hb, hB, h1, h2, by simpa using h3, by simp⟩⟩, hr⟩
theorem Reps.set {R : α → List Value → Prop} {size : Nat} {ps : List α} {cs c : List Value} {x : α} (h : Reps R size ps cs) (hx : R x c) (hc : c.length = size) (i : Nat) (hi : i < ps.length) : Reps R size (ps.set i x) (over cs (i * size) c) := by
  refine ⟨by rw [over_length, h.1, List.length_set], fun j p hp => ?_⟩
  rw [List.getElem?_set] at hp
  by_cases hij : i = j
  · subst hij
    rw [if_pos rfl, if_pos hi] at hp
    obtain rfl : x = p := by simpa using hp
    have e2 : ((over cs (i * size) c).drop (i * size)).take size = c := by
      refine List.ext_getElem? fun k => ?_
      have hlen : i * size + size ≤ cs.length := by rw [h.1, ← Nat.succ_mul]; exact Nat.mul_le_mul_right _ hi
      rw [List.getElem?_take]
      by_cases hk : k < size
      · rw [if_pos hk, List.getElem?_drop, over_get, if_pos ⟨by omega, by omega, by omega⟩, Nat.add_sub_cancel_left]
      · rw [if_neg hk, List.getElem?_eq_none (by omega)]
    rw [e2]
    exact hx
  · rw [if_neg hij] at hp
    have hj := (List.getElem?_eq_some_iff.1 hp).1
    have e2 : ((over cs (i * size) c).drop (j * size)).take size = (cs.drop (j * size)).take size := by
      refine List.ext_getElem? fun k => ?_
      rw [List.getElem?_take, List.getElem?_take]
      by_cases hk : k < size
      · rw [if_pos hk, if_pos hk, List.getElem?_drop, List.getElem?_drop, over_get, if_neg]
        rintro ⟨h1, h2, _⟩
        rw [hc] at h2
        rcases Nat.lt_or_gt_of_ne hij with hlt | hlt
        · have := Nat.mul_le_mul_right size hlt
          rw [Nat.succ_mul] at this
          omega
        · have := Nat.mul_le_mul_right size hlt
          rw [Nat.succ_mul] at this
          omega
      · rw [if_neg hk, if_neg hk]
    rw [e2]
    exact h.2 j p hp
theorem over_take (cs vs : List Value) (o m : Nat) (h : o + vs.length ≤ m) : (over cs o vs).take m = over (cs.take m) o vs := by
  refine List.ext_getElem? fun k => ?_
  rw [List.getElem?_take, over_get, over_get, List.length_take, List.getElem?_take]
  by_cases hk : k < m
  · rw [if_pos hk, if_pos hk]
    by_cases h1 : o ≤ k ∧ k < o + vs.length ∧ k < cs.length
    · rw [if_pos h1, if_pos ⟨h1.1, h1.2.1, by omega⟩]
    · rw [if_neg h1, if_neg (by omega)]
  · rw [if_neg hk, if_neg (by omega), if_neg hk]
theorem over_take_same (cs vs : List Value) (o m : Nat) (h : m ≤ o) : (over cs o vs).take m = cs.take m := by
  refine List.ext_getElem? fun k => ?_
  rw [List.getElem?_take, over_get, List.getElem?_take]
  by_cases hk : k < m
  · rw [if_pos hk, if_pos hk, if_neg (by omega)]
  · rw [if_neg hk, if_neg hk]
/-- An element, as its cells say it. -/
theorem own_cells {ad : Addr} {n c k : Nat} (h : d.Own e w base ok (.slice (some ad) n c) xs) (hk : k < xs.length) : ∃ g cl, ad = ⟨g, 0, none⟩ ∧ d.K w (fun k => ok k ∧ some k ≠ some g) xs[k] cl ∧ ∀ i u, cl[i]? = some u → w.cell? (ad.add (k * d.sz + i)) = some u := by
  obtain ⟨g, cs, rfl, hn, hb, hB, h1, h2, h3, hr⟩ := own_open h
  refine ⟨g, _, rfl, hr.2 k _ (List.getElem?_eq_getElem hk), fun i u hu => ?_⟩
  rw [add_plain, hB.cell]
  rw [List.getElem?_take] at hu
  split at hu
  · rw [List.getElem?_drop, List.getElem?_take] at hu
    split at hu
    · exact hu
    · cases hu
  · cases hu
/-- 'v[i] = x'. -/
theorem own_set {g n c : Nat} (h : d.Own e w base ok (.slice (some ⟨g, 0, none⟩) n c) xs) {i : Nat} (hi : i < xs.length) {x : α} {cs : List Value} (hx : d.K w (fun k => ok k ∧ some k ≠ some g) x cs) :
    d.Own e (w.setCells g (i * d.sz) cs) base ok (.slice (some ⟨g, 0, none⟩) n c) (xs.set i x) := by
  obtain ⟨g', cur, e1, hn, hb, hB, h1, h2, h3, hr⟩ := own_open h
  injection e1 with e1
  subst e1
  have hg := grown_setCells w g (i * d.sz) cs
  have hmv : ∀ p c', d.K w (fun k => ok k ∧ some k ≠ some g) p c' → d.K (w.setCells g (i * d.sz) cs) (fun k => ok k ∧ some k ≠ some g) p c' := fun p c' hp => d.move (fun k hk hlt => hg.block k hlt hk.2) hp
  refine own_shut hb (hB.sets cs _) (by rw [List.length_set]; exact hn) h1 h2 (by rw [over_length]; exact h3) ?_
  have hle : i * d.sz + cs.length ≤ n * d.sz := by rw [d.len hx, ← Nat.succ_mul, hn]; exact Nat.mul_le_mul_right _ hi
  rw [over_take _ _ _ _ hle]
  have h4 := Reps.set hr hx (d.len hx) i hi
  exact ⟨h4.1, fun j p hp => hmv _ _ (h4.2 j p hp)⟩
/-- The row, cut: 'v[:i]'. -/
theorem own_take {g n c : Nat} (h : d.Own e w base ok (.slice (some ⟨g, 0, none⟩) n c) xs) {i : Nat} (hi : i ≤ xs.length) : d.Own e w base ok (.slice (some ⟨g, 0, none⟩) i c) (xs.take i) := by
  obtain ⟨g', cur, e1, hn, hb, hB, h1, h2, h3, hr⟩ := own_open h
  injection e1 with e1
  subst e1
  refine own_shut hb hB (by rw [List.length_take]; omega) (by omega) h2 h3 ⟨by rw [List.length_take, List.length_take, h3, Nat.min_eq_left (Nat.mul_le_mul_right _ (by omega)), Nat.min_eq_left hi], fun j p hp => ?_⟩
  have hj := (List.getElem?_eq_some_iff.1 hp).1
  rw [List.length_take] at hj
  rw [List.getElem?_take, if_pos (by omega)] at hp
  have h5 := hr.2 j p hp
  have e2 : ((cur.take (i * d.sz)).drop (j * d.sz)).take d.sz = ((cur.take (n * d.sz)).drop (j * d.sz)).take d.sz := by
    have hm1 : j * d.sz + d.sz ≤ i * d.sz := by rw [← Nat.succ_mul]; exact Nat.mul_le_mul_right _ (by omega)
    have hm2 : i * d.sz ≤ n * d.sz := Nat.mul_le_mul_right _ (by omega)
    refine List.ext_getElem? fun k => ?_
    rw [List.getElem?_take, List.getElem?_take, List.getElem?_drop, List.getElem?_drop, List.getElem?_take, List.getElem?_take]
    by_cases hk : k < d.sz
    · rw [if_pos hk, if_pos hk, if_pos (by omega), if_pos (by omega)]
    · rw [if_neg hk, if_neg hk]
  rw [e2]
  exact h5
/-- What is written behind the row's end is none of its elements. -/
theorem own_behind {g n c : Nat} (h : d.Own e w base ok (.slice (some ⟨g, 0, none⟩) n c) xs) {o : Nat} (ho : n * d.sz ≤ o) (cs : List Value) : d.Own e (w.setCells g o cs) base ok (.slice (some ⟨g, 0, none⟩) n c) xs := by
  obtain ⟨g', cur, e1, hn, hb, hB, h1, h2, h3, hr⟩ := own_open h
  injection e1 with e1
  subst e1
  have hg := grown_setCells w g o cs
  refine own_shut hb (hB.sets cs _) hn h1 h2 (by rw [over_length]; exact h3) ?_
  rw [over_take_same _ _ _ _ ho]
  exact ⟨hr.1, fun j p hp => d.move (fun k hk hlt => hg.block k hlt hk.2) (hr.2 j p hp)⟩
/-- 'clear(v[i:])': the run. -/
theorem run_clear_own {P : Program} {t ty : TypeId} {z : Value} {g n c i : Nat} (ht : P.underlying t = some (.slice e)) (hv : ∀ w, (zeroValue e).run P w = .ok z w) (hz : z.cells.size = d.sz) (h1 : ∀ u ∈ z.cells.toList, u.oneCell' = true)
    (h : d.Own e w base ok (.slice (some ⟨g, 0, none⟩) n c) xs) (_hi : i ≤ n) (hlt : i < n) (cc : Nat) :
    ∃ vs, (Builtin.clear_ #[t] ty #[.slice (some ⟨g, i * d.sz, none⟩) (n - i) cc]).run P w = .ok (.tuple #[]) (w.setCells g (i * d.sz) vs) := by
  obtain ⟨g', cur, e1, hn, hb, hB, h1', h2, h3, hr⟩ := own_open h
  injection e1 with e1
  subst e1
  refine ⟨(Builtin.zeroCells z.cells (n - i)).toList, ?_⟩
  have hlen : (Builtin.zeroCells z.cells (n - i)).toList.length = (n - i) * d.sz := by rw [Array.length_toList, size_zeroCells, hz]
  have hle : i * d.sz + (n - i) * d.sz ≤ cur.length := by rw [h3, ← Nat.add_mul]; exact Nat.mul_le_mul_right _ (by omega)
  have hst := run_storeCells_cells (P := P) g (i * d.sz) (Builtin.zeroCells z.cells (n - i)).toList 0 w
    (fun j hj => by rw [hB.cell, List.getElem?_eq_getElem (by omega)]; rfl) (fun j _ => hB.frozen _)
    (fun u hu => by
      obtain ⟨k, hk, rfl⟩ := List.getElem_of_mem hu
      have hk2 := hk
      rw [hlen] at hk2
      have hp : 0 < z.cells.size := by
        rcases Nat.eq_zero_or_pos z.cells.size with h0 | h0
        · rw [← hz, h0, Nat.mul_zero] at hk2; omega
        · exact h0
      apply h1
      have e2 : (Builtin.zeroCells z.cells (n - i)).toList[k] = z.cells[k % z.cells.size]'(Nat.mod_lt _ hp) := by
        simp [Builtin.zeroCells, getElem!_pos, Nat.mod_lt _ hp]
      rw [e2, Array.mem_toList_iff]
      exact Array.getElem_mem _)
  obtain ⟨m, hm⟩ : ∃ m, n - i = m + 1 := ⟨n - i - 1, by omega⟩
  rw [hm] at hst ⊢
  simp only [Nat.add_zero] at hst
  simp [Builtin.clear_, run_underlying ht, hv, hst]
end Rp
end Go.Proofs.WK
