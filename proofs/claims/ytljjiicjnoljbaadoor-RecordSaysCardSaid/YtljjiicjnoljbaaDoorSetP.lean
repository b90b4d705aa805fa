/-
  A record with a field set (P18), as plain data. No walk.
-/
import Derived.Test.YtljjiicjnoljbaaDoorDat
namespace Go.Proofs.WK
def below_ (l : List Fld) (k : ByteArray) : List Fld := l.filter fun g => slt g.key k
def above_ (l : List Fld) (k : ByteArray) : List Fld := l.filter fun g => slt k g.key
/-- The fields with one set. -/
def setF (l : List Fld) (f : Fld) : List Fld := below_ l f.key ++ f :: above_ l f.key
/-- Does a field have this key? -/
def hasK (l : List Fld) (k : ByteArray) : Bool := l.any fun g => decide (g.key = k)
/-- P18. -/
def setErr (r : Rec) (f : Fld) : Int := if recErr r ≠ 0 then recErr r else if idOk f.key = false ∨ valOk f.val = false then 3 else if 6 < (setF r.fields f).length then 2 else 0
def setR (r : Rec) (f : Fld) : Rec := if setErr r f = 0 then { r with fields := setF r.fields f } else noRec
def KSrt (l : List Fld) : Prop := l.Pairwise fun a b => slt a.key b.key = true
theorem ksrt_of {l : List Fld} (h : fldsOk l = true) : KSrt l := by
  unfold fldsOk at h
  rw [Bool.and_eq_true] at h
  have := (srtB_iff _).1 h.2
  unfold Srt at this
  rw [List.pairwise_map] at this
  exact this
/-- How many stand ahead of a key. -/
def keyN (l : List Fld) (k : ByteArray) : Nat := (below_ l k).length
theorem below_cons (g : Fld) (l : List Fld) (k : ByteArray) : below_ (g :: l) k = if slt g.key k = true then g :: below_ l k else below_ l k := by
  unfold below_
  rw [List.filter_cons]
theorem above_cons (g : Fld) (l : List Fld) (k : ByteArray) : above_ (g :: l) k = if slt k g.key = true then g :: above_ l k else above_ l k := by
  unfold above_
  rw [List.filter_cons]
/-- Sorted: those that stand ahead are a head; behind them, perhaps, the key's own; then the others. -/
theorem split_at : ∀ {l : List Fld} (k : ByteArray), KSrt l → l = below_ l k ++ (l.filter fun g => decide (g.key = k)) ++ above_ l k
  | [], _, _ => rfl
  | g :: l, k, h => by
    have h1 := List.pairwise_cons.1 h
    have ih := split_at k h1.2
    rw [below_cons, above_cons, List.filter_cons]
    rcases slt_tri g.key k with h2 | h2 | h2
    · have h3 : slt k g.key = false := slt_asymm h2
      rw [if_pos h2, if_neg (by simpa using slt_ne h2), if_neg (by rw [h3]; decide)]
      rw [List.cons_append, List.cons_append, ← ih]
    · have e1 : below_ l k = [] := by
        unfold below_
        rw [List.filter_eq_nil_iff]
        intro x hx
        have := h1.1 x hx
        rw [h2] at this
        rw [slt_asymm this]
        decide
      have e2 : (l.filter fun g => decide (g.key = k)) = [] := by
        rw [List.filter_eq_nil_iff]
        intro x hx
        have := h1.1 x hx
        rw [h2] at this
        simpa using (slt_ne this).symm
      rw [if_neg (by rw [h2, slt_irrefl]; decide), if_pos (by simpa using h2), if_neg (by rw [h2, slt_irrefl]; decide)]
      rw [e1, e2] at ih ⊢
      simp only [List.nil_append] at ih ⊢
      rw [← ih]
      rfl
    · have h3 : slt g.key k = false := slt_asymm h2
      have e1 : below_ l k = [] := by
        unfold below_
        rw [List.filter_eq_nil_iff]
        intro x hx
        rw [slt_asymm (slt_trans h2 (h1.1 x hx))]
        decide
      have e2 : (l.filter fun g => decide (g.key = k)) = [] := by
        rw [List.filter_eq_nil_iff]
        intro x hx
        simpa using (slt_ne (slt_trans h2 (h1.1 x hx))).symm
      rw [if_neg (by rw [h3]; decide), if_neg (by simpa using (slt_ne h2).symm), if_pos h2]
      rw [e1, e2] at ih ⊢
      simp only [List.nil_append] at ih ⊢
      rw [← ih]
theorem own_one : ∀ {l : List Fld} (k : ByteArray), KSrt l → (l.filter fun g => decide (g.key = k)).length ≤ 1
  | [], _, _ => Nat.zero_le _
  | g :: l, k, h => by
    have h1 := List.pairwise_cons.1 h
    rw [List.filter_cons]
    split
    · rename_i h2
      have h2 : g.key = k := by simpa using h2
      have e2 : (l.filter fun g => decide (g.key = k)) = [] := by
        rw [List.filter_eq_nil_iff]
        intro x hx
        have := h1.1 x hx
        rw [h2] at this
        simpa using (slt_ne this).symm
      rw [e2]
      simp
    · exact own_one k h1.2
/-- What a search finds. -/
theorem key_at {l : List Fld} {k : ByteArray} (h : KSrt l) : (∀ j (hj : j < l.length), j < keyN l k → slt l[j].key k = true) ∧ (∀ j (hj : j < l.length), keyN l k ≤ j → slt l[j].key k = false) ∧ keyN l k ≤ l.length := by
  have hs := split_at k h
  have hlen : (below_ l k).length ≤ l.length := List.length_filter_le _ _
  refine ⟨fun j hj hk => ?_, fun j hj hk => ?_, hlen⟩
  · have hm : l[j] ∈ below_ l k := by
      have e : l[j] = (below_ l k)[j]'hk := by
        conv => lhs; rw [List.getElem_of_eq hs]
        rw [List.getElem_append_left (by rw [List.length_append]; exact Nat.lt_of_lt_of_le hk (Nat.le_add_right _ _)), List.getElem_append_left hk]
      rw [e]
      exact List.getElem_mem hk
    exact (List.mem_filter.1 hm).2
  · have hm : l[j] ∈ (l.filter fun g => decide (g.key = k)) ++ above_ l k := by
      have hj2 : j - (below_ l k).length < ((l.filter fun g => decide (g.key = k)) ++ above_ l k).length := by
        have h1 := congrArg List.length hs
        rw [List.append_assoc, List.length_append] at h1
        unfold keyN at hk
        omega
      have e : l[j] = ((l.filter fun g => decide (g.key = k)) ++ above_ l k)[j - (below_ l k).length]'hj2 := by
        conv => lhs; rw [List.getElem_of_eq (hs.trans (List.append_assoc ..))]
        rw [List.getElem_append_right hk]
      rw [e]
      exact List.getElem_mem hj2
    rcases List.mem_append.1 hm with hm | hm
    · have : l[j].key = k := by simpa using (List.mem_filter.1 hm).2
      rw [this, slt_irrefl]
    · exact slt_asymm (List.mem_filter.1 hm).2
/-- It is there: it is set in its place. -/
theorem set_hit {l : List Fld} {f : Fld} (h : KSrt l) {j : Nat} (hj : j < l.length) (hk : l[j].key = f.key) : setF l f = l.set j f ∧ j = keyN l f.key ∧ (setF l f).length = l.length := by
  have hs := split_at f.key h
  have h1 := own_one f.key h
  have hm : l[j] ∈ l.filter fun g => decide (g.key = f.key) := List.mem_filter.2 ⟨List.getElem_mem hj, by simpa using hk⟩
  obtain ⟨x, hx⟩ : ∃ x, (l.filter fun g => decide (g.key = f.key)) = [x] := by
    cases hc : (l.filter fun g => decide (g.key = f.key)) with
    | nil => rw [hc] at hm; cases hm
    | cons a r =>
      rw [hc] at h1
      simp at h1
      exact ⟨a, by rw [h1]⟩
  have hn : j = keyN l f.key := by
    obtain ⟨k1, k2, _⟩ := key_at (k := f.key) h
    have h5 : ¬ j < keyN l f.key := fun h6 => by
      have := k1 j hj h6
      rw [hk, slt_irrefl] at this
      cases this
    have h6 : keyN l f.key < l.length := by
      have := congrArg List.length hs
      rw [hx] at this
      simp at this
      unfold keyN
      omega
    have h7 : ¬ keyN l f.key < j := fun h8 => by
      have h9 := List.pairwise_iff_getElem.1 h (keyN l f.key) j h6 hj h8
      rw [hk, k2 _ h6 (Nat.le_refl _)] at h9
      cases h9
    omega
  rw [hx] at hs
  have e : l.set j f = setF l f := by
    conv => lhs; rw [hs]
    rw [hn]
    unfold setF keyN
    rw [List.append_assoc, List.set_append_right _ _ (Nat.le_refl _), Nat.sub_self]
    rfl
  exact ⟨e.symm, hn, by rw [← e, List.length_set]⟩
/-- It is not there: it comes between. -/
theorem set_miss {l : List Fld} {f : Fld} (h : KSrt l) (hk : ∀ g ∈ l, g.key ≠ f.key) : setF l f = l.take (keyN l f.key) ++ f :: l.drop (keyN l f.key) ∧ (setF l f).length = l.length + 1 := by
  have hs := split_at f.key h
  have hx : (l.filter fun g => decide (g.key = f.key)) = [] := by
    rw [List.filter_eq_nil_iff]
    intro x hx
    simpa using hk x hx
  rw [hx, List.append_nil] at hs
  have e : setF l f = l.take (keyN l f.key) ++ f :: l.drop (keyN l f.key) := by
    unfold setF keyN
    have h1 : l.take (below_ l f.key).length = below_ l f.key := (congrArg (List.take _) hs).trans (List.take_left' rfl)
    have h2 : l.drop (below_ l f.key).length = above_ l f.key := (congrArg (List.drop _) hs).trans (List.drop_left' rfl)
    rw [h1, h2]
  refine ⟨e, ?_⟩
  have := congrArg List.length hs
  rw [List.length_append] at this
  unfold setF
  simp
  omega
theorem hasK_iff {l : List Fld} {k : ByteArray} : hasK l k = true ↔ ∃ j, ∃ h : j < l.length, l[j].key = k := by
  unfold hasK
  rw [List.any_eq_true]
  constructor
  · rintro ⟨g, hg, h⟩
    obtain ⟨j, hj, rfl⟩ := List.getElem_of_mem hg
    exact ⟨j, hj, by simpa using h⟩
  · rintro ⟨j, hj, h⟩
    exact ⟨_, List.getElem_mem hj, by simpa using h⟩
theorem ksrt_set {l : List Fld} (h : KSrt l) (f : Fld) : KSrt (setF l f) := by
  have hb : KSrt (below_ l f.key) := List.Pairwise.filter _ h
  have ha : KSrt (above_ l f.key) := List.Pairwise.filter _ h
  unfold setF KSrt
  rw [List.pairwise_append]
  refine ⟨hb, List.pairwise_cons.2 ⟨fun g hg => (List.mem_filter.1 hg).2, ha⟩, fun a ha b hb => ?_⟩
  have h1 := (List.mem_filter.1 ha).2
  rcases List.mem_cons.1 hb with rfl | hb
  · exact h1
  · exact slt_trans h1 (List.mem_filter.1 hb).2
theorem mem_setF {l : List Fld} {f g : Fld} : g ∈ setF l f ↔ g = f ∨ (g ∈ l ∧ g.key ≠ f.key) := by
  unfold setF below_ above_
  rw [List.mem_append, List.mem_cons, List.mem_filter, List.mem_filter]
  constructor
  · rintro (⟨h1, h2⟩ | rfl | ⟨h1, h2⟩)
    · exact .inr ⟨h1, slt_ne h2⟩
    · exact .inl rfl
    · exact .inr ⟨h1, (slt_ne h2).symm⟩
  · rintro (rfl | ⟨h1, h2⟩)
    · exact .inr (.inl rfl)
    · rcases slt_tri g.key f.key with h3 | h3 | h3
      · exact .inl ⟨h1, h3⟩
      · exact absurd h3 h2
      · exact .inr (.inr ⟨h1, h3⟩)
/-! ### the document's map -/
def mapK (l : List Fld) (f : Fld) : Nat → ByteArray → Option ByteArray
  | 0 => fun z => if z = f.key then some f.val else none
  | k + 1 => match l[k]? with
    | none => mapK l f k
    | some g => if g.key = f.key then mapK l f k else fun z => if z = g.key then some g.val else mapK l f k z
theorem mapK_same {l : List Fld} {f : Fld} {k : Nat} (hk : k < l.length) (h : l[k].key = f.key) : mapK l f (k + 1) = mapK l f k := by
  rw [mapK, List.getElem?_eq_getElem hk]
  exact if_pos h
theorem mapK_put {l : List Fld} {f : Fld} {k : Nat} (hk : k < l.length) (h : l[k].key ≠ f.key) : mapK l f (k + 1) = fun z => if z = l[k].key then some l[k].val else mapK l f k z := by
  rw [mapK, List.getElem?_eq_getElem hk]
  exact if_neg h
theorem mapK_iff {l : List Fld} {f : Fld} (h : KSrt l) : ∀ k, k ≤ l.length → ∀ z y, mapK l f k z = some y ↔ (⟨z, y⟩ : Fld) = f ∨ ((⟨z, y⟩ : Fld) ∈ l.take k ∧ z ≠ f.key)
  | 0, _, z, y => by
    show (if z = f.key then some f.val else none) = some y ↔ _
    rw [List.take_zero]
    constructor
    · intro h1
      split at h1
      · rename_i h2
        injection h1 with h1
        left
        rw [h2, ← h1]
      · cases h1
    · rintro (h1 | ⟨h1, _⟩)
      · rw [← h1]; simp
      · cases h1
  | k + 1, hk, z, y => by
    have ih := mapK_iff (f := f) h k (by omega) z y
    have hk' : k < l.length := by omega
    rw [List.take_succ_eq_append_getElem hk', List.mem_append, List.mem_singleton]
    by_cases h1 : l[k].key = f.key
    · rw [mapK_same hk' h1, ih]
      constructor
      · rintro (h2 | ⟨h2, h3⟩)
        · exact .inl h2
        · exact .inr ⟨.inl h2, h3⟩
      · rintro (h2 | ⟨h2 | h2, h3⟩)
        · exact .inl h2
        · exact .inr ⟨h2, h3⟩
        · rw [← h2] at h1; exact absurd h1 h3
    · rw [mapK_put hk' h1]
      show (if z = l[k].key then some l[k].val else mapK l f k z) = some y ↔ _
      by_cases h2 : z = l[k].key
      · rw [if_pos h2]
        have hno : ∀ x, (⟨z, x⟩ : Fld) ∈ l.take k → False := by
          intro x hx
          obtain ⟨j, hj, e⟩ := List.getElem_of_mem hx
          have hj1 : j < k := by rw [List.length_take] at hj; omega
          rw [List.getElem_take] at e
          have := List.pairwise_iff_getElem.1 h j k (by omega) hk' hj1
          rw [e] at this
          exact slt_ne this h2
        constructor
        · intro h3
          injection h3 with h3
          refine .inr ⟨.inr ?_, by rw [h2]; exact h1⟩
          rw [h2, ← h3]
        · rintro (h3 | ⟨h3 | h3, h4⟩)
          · exact absurd (by rw [← h2, ← h3]) h1
          · exact (hno y h3).elim
          · rw [← h3]
      · rw [if_neg h2, ih]
        constructor
        · rintro (h3 | ⟨h3, h4⟩)
          · exact .inl h3
          · exact .inr ⟨.inl h3, h4⟩
        · rintro (h3 | ⟨h3 | h3, h4⟩)
          · exact .inl h3
          · exact .inr ⟨h3, h4⟩
          · exact absurd (by rw [← h3]) h2
def mapV (l : List Fld) (f : Fld) : ByteArray → Option ByteArray := mapK l f l.length
theorem mapV_iff {l : List Fld} {f : Fld} (h : KSrt l) (z y : ByteArray) : mapV l f z = some y ↔ (⟨z, y⟩ : Fld) ∈ setF l f := by
  unfold mapV
  rw [mapK_iff h _ (Nat.le_refl _), List.take_length, mem_setF]
theorem mapV_some {l : List Fld} {f : Fld} (h : KSrt l) (z : ByteArray) : (mapV l f z).isSome = true ↔ z ∈ (setF l f).map (·.key) := by
  rw [Option.isSome_iff_exists, List.mem_map]
  constructor
  · rintro ⟨y, hy⟩
    exact ⟨_, (mapV_iff h z y).1 hy, rfl⟩
  · rintro ⟨g, hg, rfl⟩
    exact ⟨g.val, (mapV_iff h g.key g.val).2 hg⟩
theorem srt_keys {l : List Fld} (h : KSrt l) : Srt (l.map (·.key)) := by
  unfold Srt
  rw [List.pairwise_map]
  exact h
/-- A list without doubles of just the map's keys, sorted: the fields' keys. -/
theorem keys_ext {l : List Fld} {f : Fld} {xs : List ByteArray} (h : KSrt l) (hn : xs.Nodup) (hm : ∀ z, z ∈ xs ↔ (mapV l f z).isSome = true) : sortS xs = (setF l f).map (·.key) :=
  srt_ext (srt_sortS hn) (srt_keys (ksrt_set h f)) fun z => by rw [mem_sortS, hm, mapV_some h]
end Go.Proofs.WK
