/-
  The names of a store that are there (P27), as plain data. No program.
-/
import Derived.Test.YtljjiicjnoljbaaDoorGetP
import Derived.Test.YtljjiicjnoljbaaDoorMap
namespace Go.Proofs.WK
def isId (l : List Ver) (z : ByteArray) : Bool := l.any fun v => decide (v.r.id = z)
theorem isId_iff {l : List Ver} {z : ByteArray} : isId l z = true ↔ ∃ v ∈ l, v.r.id = z := by simp [isId]
theorem isId_step {l : List Ver} {k : Nat} (hk : k < l.length) (z : ByteArray) : isId (l.take (k + 1)) z = (isId (l.take k) z || decide (l[k].r.id = z)) := by
  unfold isId
  rw [List.take_succ_eq_append_getElem hk, List.any_append]
  simp only [List.any_cons, List.any_nil, Bool.or_false]
def seenF (l : List Ver) (k : Nat) (z : ByteArray) : Option Bool := if isId (l.take k) z = true then some true else none
theorem seenF_zero (l : List Ver) : seenF l 0 = fun _ => none := by
  funext z
  simp [seenF, isId]
theorem seenF_put {l : List Ver} {k : Nat} (hk : k < l.length) : (fun z => if z = l[k].r.id then some true else seenF l k z) = seenF l (k + 1) := by
  funext z
  unfold seenF
  rw [isId_step hk]
  by_cases h : z = l[k].r.id
  · subst h; simp
  · rw [if_neg h]
    have h2 : decide (l[k].r.id = z) = false := by simp; exact fun e => h e.symm
    rw [h2, Bool.or_false]
theorem seenF_same {l : List Ver} {k : Nat} (hk : k < l.length) (h : isId (l.take k) l[k].r.id = true) : seenF l (k + 1) = seenF l k := by
  rw [← seenF_put hk]
  funext z
  by_cases hz : z = l[k].r.id
  · subst hz; rw [if_pos rfl, seenF, if_pos h]
  · rw [if_neg hz]
theorem seenF_get (l : List Ver) (k : Nat) (z : ByteArray) : (seenF l k z).getD false = isId (l.take k) z := by
  unfold seenF
  cases isId (l.take k) z <;> rfl
/-- The names of the first k versions, each once, of which a version lives. -/
def idsK (l : List Ver) : Nat → List ByteArray
  | 0 => []
  | k + 1 => match l[k]? with
    | none => idsK l k
    | some v => if isId (l.take k) v.r.id = true then idsK l k else if getI l v.r.id < 0 then idsK l k else idsK l k ++ [v.r.id]
theorem idsK_step {l : List Ver} {k : Nat} (hk : k < l.length) : idsK l (k + 1) = if isId (l.take k) l[k].r.id = true then idsK l k else if getI l l[k].r.id < 0 then idsK l k else idsK l k ++ [l[k].r.id] := by
  rw [idsK, List.getElem?_eq_getElem hk]
theorem idsK_seen {l : List Ver} {k : Nat} (hk : k < l.length) (h : isId (l.take k) l[k].r.id = true) : idsK l (k + 1) = idsK l k := by rw [idsK_step hk, if_pos h]
theorem idsK_gone {l : List Ver} {k : Nat} (hk : k < l.length) (h : isId (l.take k) l[k].r.id = false) (hg : getI l l[k].r.id < 0) : idsK l (k + 1) = idsK l k := by rw [idsK_step hk, if_neg (by simp [h]), if_pos hg]
theorem idsK_new {l : List Ver} {k : Nat} (hk : k < l.length) (h : isId (l.take k) l[k].r.id = false) (hg : ¬ getI l l[k].r.id < 0) : idsK l (k + 1) = idsK l k ++ [l[k].r.id] := by rw [idsK_step hk, if_neg (by simp [h]), if_neg hg]
theorem length_idsK (l : List Ver) : ∀ k, (idsK l k).length ≤ k
  | 0 => Nat.le_refl _
  | k + 1 => by
    have ih := length_idsK l k
    unfold idsK
    split
    · omega
    · split
      · omega
      · split
        · omega
        · simp; omega
theorem mem_idsK (l : List Ver) (z : ByteArray) : ∀ k, k ≤ l.length → (z ∈ idsK l k ↔ isId (l.take k) z = true ∧ 0 ≤ getI l z)
  | 0, _ => by simp [idsK, isId]
  | k + 1, hk => by
    have ih := mem_idsK l z k (by omega)
    have hk' : k < l.length := by omega
    rw [idsK_step hk', isId_step hk']
    by_cases hz : l[k].r.id = z
    · subst hz
      rw [decide_eq_true rfl, Bool.or_true]
      split
      · rename_i h1
        rw [ih, h1]
      · rename_i h1
        split
        · rename_i h2
          rw [ih]
          constructor
          · rintro ⟨h3, _⟩; exact absurd h3 h1
          · rintro ⟨_, h3⟩; omega
        · rename_i h2
          simp; omega
    · rw [show decide (l[k].r.id = z) = false by simp [hz], Bool.or_false]
      split
      · exact ih
      · split
        · exact ih
        · rw [List.mem_append, ih]
          constructor
          · rintro (h | h)
            · exact h
            · simp at h; exact absurd h.symm hz
          · exact .inl
theorem nodup_idsK (l : List Ver) : ∀ k, k ≤ l.length → (idsK l k).Nodup
  | 0, _ => by simp [idsK]
  | k + 1, hk => by
    have ih := nodup_idsK l k (by omega)
    rw [idsK_step (by omega)]
    split
    · exact ih
    · rename_i h1
      split
      · exact ih
      · rw [List.nodup_append]
        refine ⟨ih, by simp, fun a ha b hb => ?_⟩
        simp at hb
        subst hb
        intro e
        subst e
        exact h1 ((mem_idsK l _ k (by omega)).1 ha).1
/-- P27. -/
def idsV (l : List Ver) : List ByteArray := if storeErr l = 0 then sortS (idsK l l.length) else []
/-- A list without doubles of just these names, sorted. -/
theorem ids_ext {l : List Ver} {xs : List ByteArray} (h0 : storeErr l = 0) (hn : xs.Nodup) (hm : ∀ z, z ∈ xs ↔ isId l z = true ∧ 0 ≤ getI l z) : sortS xs = idsV l := by
  rw [idsV, if_pos h0]
  refine srt_ext (srt_sortS hn) (srt_sortS (nodup_idsK l _ (Nat.le_refl _))) fun z => ?_
  rw [mem_sortS, mem_sortS, hm, mem_idsK l z _ (Nat.le_refl _), List.take_length]
theorem mem_idsV {l : List Ver} (h0 : storeErr l = 0) (z : ByteArray) : z ∈ idsV l ↔ isId l z = true ∧ 0 ≤ getI l z := by
  rw [idsV, if_pos h0, mem_sortS, mem_idsK l z _ (Nat.le_refl _), List.take_length]
theorem srt_idsV (l : List Ver) : Srt (idsV l) := by
  unfold idsV
  split
  · exact srt_sortS (nodup_idsK l _ (Nat.le_refl _))
  · exact List.Pairwise.nil
theorem length_idsV (l : List Ver) : (idsV l).length ≤ l.length := by
  unfold idsV
  split
  · rw [length_sortS]; exact length_idsK l _
  · simp
theorem get_err {l : List Ver} (h0 : storeErr l = 0) (id : ByteArray) : getErr l id = if getI l id < 0 then 4 else 0 := by rw [getErr, if_neg (by simpa using h0)]
end Go.Proofs.WK
