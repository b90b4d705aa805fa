/-
  Groups as plain data (P49 to P56): one that leads, and others who follow. No program.
-/
import Derived.Test.YtljjiicjnoljbaaWk0
namespace Go.Proofs.WK
/-- How much of the log each has, the first one all of it; and what each is known to have. -/
structure Grp where
  has : List (List ByteArray)
  ack : List Int
def Grp.lst (g : Grp) (i : Nat) : List ByteArray := g.has[i]?.getD []
def Grp.ak (g : Grp) (i : Nat) : Int := g.ack[i]?.getD 0
def grpIs (g : Grp) (i : Int) : Bool := decide (1 ≤ i) && decide (i < (g.has.length : Int))
def addE (g : Grp) : Int := if (g.lst 0).length = 60 then 2 else 0
def addG (g : Grp) (s : ByteArray) : Grp := if addE g = 0 then ⟨g.has.set 0 (g.lst 0 ++ [s]), g.ack.set 0 (((g.lst 0).length + 1 : Nat) : Int)⟩ else g
def addN (g : Grp) : Int := if addE g = 0 then (((g.lst 0).length + 1 : Nat) : Int) else 0
def sendE (g : Grp) (i f : Int) : Int := if grpIs g i = false then 4 else if f < 0 ∨ ((g.lst 0).length : Int) < f then 1 else 0
def sendV (g : Grp) (i f : Int) : List ByteArray := if sendE g i f = 0 then (g.lst 0).drop f.toNat else []
/-- Does what is sent say something else than what is there? -/
def clash (h : List ByteArray) (f : Nat) (l : List ByteArray) : Bool := ((h.drop f).zip l).any fun p => !decide (p.1 = p.2)
def takeE (g : Grp) (i f : Int) (l : List ByteArray) : Int :=
  if grpIs g i = false then 4 else if f < 0 ∨ 60 < l.length then 1 else if ((g.lst i.toNat).length : Int) < f then 9 else if clash (g.lst i.toNat) f.toNat l = true then 3 else if 60 < f + (l.length : Int) then 2 else 0
def longer (h : List ByteArray) (f : Nat) (l : List ByteArray) : List ByteArray := h ++ l.drop (h.length - f)
def takeG (g : Grp) (i f : Int) (l : List ByteArray) : Grp := if takeE g i f l = 0 then { g with has := g.has.set i.toNat (longer (g.lst i.toNat) f.toNat l) } else g
def takeN (g : Grp) (i f : Int) (l : List ByteArray) : Int := if takeE g i f l = 0 then ((longer (g.lst i.toNat) f.toNat l).length : Int) else 0
def toldE (g : Grp) (i n : Int) : Int := if grpIs g i = false then 4 else if n < 0 ∨ ((g.lst 0).length : Int) < n ∨ ((g.lst i.toNat).length : Int) < n then 1 else 0
def toldG (g : Grp) (i n : Int) : Grp := if toldE g i n = 0 then { g with ack := g.ack.set i.toNat (max (g.ak i.toNat) n) } else g
def loseE (g : Grp) (i n : Int) : Int := if grpIs g i = false then 4 else if n < g.ak i.toNat ∨ ((g.lst i.toNat).length : Int) < n then 1 else 0
def loseG (g : Grp) (i n : Int) : Grp := if loseE g i n = 0 then { g with has := g.has.set i.toNat ((g.lst i.toNat).take n.toNat) } else g
def sortI (l : List Int) : List Int := l.mergeSort fun x y => decide (x ≤ y)
def sureV (g : Grp) : Int := (sortI g.ack)[(g.has.length - 1) / 2]?.getD 0
/-- A group that may be. -/
structure GrpOk (g : Grp) : Prop where
  many : 1 ≤ g.has.length ∧ g.has.length ≤ 5
  ack : g.ack.length = g.has.length
  len : ∀ i, (g.lst i).length ≤ 60
  ak : ∀ i, 0 ≤ g.ak i ∧ g.ak i ≤ 60
  first : g.ak 0 = ((g.lst 0).length : Int)
theorem lst_set {g : Grp} {i j : Nat} {h : List ByteArray} {a : List Int} : (Grp.mk (g.has.set i h) a).lst j = if i = j ∧ i < g.has.length then h else g.lst j := by
  unfold Grp.lst
  by_cases e : i = j
  · subst e
    by_cases hl : i < g.has.length
    · rw [if_pos ⟨rfl, hl⟩, List.getElem?_set_self hl]; rfl
    · rw [if_neg (by omega)]
      show (g.has.set i h)[i]?.getD [] = _
      rw [List.getElem?_eq_none (by simp; omega), List.getElem?_eq_none (by omega)]
  · rw [if_neg (by omega)]
    show (g.has.set i h)[j]?.getD [] = _
    rw [List.getElem?_set_ne e]
theorem ak_set {g : Grp} {i j : Nat} {n : Int} {b : List (List ByteArray)} : (Grp.mk b (g.ack.set i n)).ak j = if i = j ∧ i < g.ack.length then n else g.ak j := by
  unfold Grp.ak
  by_cases e : i = j
  · subst e
    by_cases hl : i < g.ack.length
    · rw [if_pos ⟨rfl, hl⟩, List.getElem?_set_self hl]; rfl
    · rw [if_neg (by omega)]
      show (g.ack.set i n)[i]?.getD 0 = _
      rw [List.getElem?_eq_none (by simp; omega), List.getElem?_eq_none (by omega)]
  · rw [if_neg (by omega)]
    show (g.ack.set i n)[j]?.getD 0 = _
    rw [List.getElem?_set_ne e]
theorem grpIs_iff {g : Grp} {i : Int} (h : grpIs g i = true) : 1 ≤ i ∧ i < (g.has.length : Int) := by
  unfold grpIs at h
  simpa using h
theorem add_ok {g : Grp} {s : ByteArray} (h : GrpOk g) : GrpOk (addG g s) := by
  unfold addG addE
  by_cases h0 : (g.lst 0).length = 60
  · rw [if_pos h0]
    exact h
  · rw [if_neg h0, if_pos rfl]
    have hm := h.many
    have ha := h.ack
    have hl := h.len 0
    refine ⟨by simpa using hm, by simpa using ha, fun i => ?_, fun i => ?_, ?_⟩
    · rw [lst_set]
      split
      · simp; omega
      · exact h.len i
    · rw [ak_set]
      split
      · omega
      · exact h.ak i
    · rw [ak_set, lst_set, if_pos ⟨rfl, by omega⟩, if_pos ⟨rfl, by omega⟩]
      simp
theorem take_ok {g : Grp} {i f : Int} {l : List ByteArray} (h : GrpOk g) : GrpOk (takeG g i f l) := by
  unfold takeG
  by_cases h0 : takeE g i f l = 0
  · rw [if_pos h0]
    unfold takeE at h0
    split at h0
    · cases h0
    · rename_i hi
      split at h0
      · cases h0
      · rename_i hf
        split at h0
        · cases h0
        · rename_i hg
          split at h0
          · cases h0
          · split at h0
            · cases h0
            · rename_i h6
              have his := grpIs_iff (by simpa using hi)
              have hm := h.many
              have ha := h.ack
              refine ⟨by simpa using hm, by simpa using ha, fun j => ?_, h.ak, ?_⟩
              · rw [lst_set]
                split
                · have := h.len i.toNat
                  unfold longer
                  rw [List.length_append, List.length_drop]
                  omega
                · exact h.len j
              · rw [lst_set, if_neg (by omega)]
                exact h.first
  · rw [if_neg h0]
    exact h
theorem told_ok {g : Grp} {i n : Int} (h : GrpOk g) : GrpOk (toldG g i n) := by
  unfold toldG
  by_cases h0 : toldE g i n = 0
  · rw [if_pos h0]
    unfold toldE at h0
    split at h0
    · cases h0
    · rename_i hi
      split at h0
      · cases h0
      · rename_i hf
        have his := grpIs_iff (by simpa using hi)
        have hm := h.many
        have ha := h.ack
        have hl := h.len 0
        refine ⟨hm, by simpa using ha, h.len, fun j => ?_, ?_⟩
        · rw [ak_set]
          split
          · have := h.ak i.toNat
            omega
          · exact h.ak j
        · rw [ak_set, if_neg (by omega)]
          exact h.first
  · rw [if_neg h0]
    exact h
theorem lose_ok {g : Grp} {i n : Int} (h : GrpOk g) : GrpOk (loseG g i n) := by
  unfold loseG
  by_cases h0 : loseE g i n = 0
  · rw [if_pos h0]
    unfold loseE at h0
    split at h0
    · cases h0
    · rename_i hi
      have his := grpIs_iff (by simpa using hi)
      have hm := h.many
      have ha := h.ack
      refine ⟨by simpa using hm, by simpa using ha, fun j => ?_, h.ak, ?_⟩
      · rw [lst_set]
        split
        · have := h.len i.toNat
          rw [List.length_take]
          omega
        · exact h.len j
      · rw [lst_set, if_neg (by omega)]
        exact h.first
  · rw [if_neg h0]
    exact h
/-! ### what is sent, one by one -/
def clashK (h : List ByteArray) (f : Nat) (l : List ByteArray) (k : Nat) : Bool := (((h.drop f).zip l).take k).any fun p => !decide (p.1 = p.2)
theorem clashK_all {h : List ByteArray} {f : Nat} {l : List ByteArray} : clashK h f l l.length = clash h f l := by
  unfold clashK clash
  rw [List.take_of_length_le (by rw [List.length_zip]; omega)]
theorem clashK_in {h : List ByteArray} {f : Nat} {l : List ByteArray} {k : Nat} (hk : k < l.length) (hf : f + k < h.length) : clashK h f l (k + 1) = (clashK h f l k || !decide (h[f + k] = l[k])) := by
  have hz : k < ((h.drop f).zip l).length := by rw [List.length_zip, List.length_drop]; omega
  unfold clashK
  rw [List.take_succ_eq_append_getElem hz, List.any_append, List.any_cons, List.any_nil, Bool.or_false, List.getElem_zip, List.getElem_drop]
theorem clashK_out {h : List ByteArray} {f : Nat} {l : List ByteArray} {k : Nat} (hf : h.length ≤ f + k) : clashK h f l (k + 1) = clashK h f l k := by
  have hz : ((h.drop f).zip l).length ≤ k := by rw [List.length_zip, List.length_drop]; omega
  unfold clashK
  rw [List.take_of_length_le hz, List.take_of_length_le (by omega)]
theorem clash_of {h : List ByteArray} {f : Nat} {l : List ByteArray} {k : Nat} (hk : clashK h f l k = true) : clash h f l = true := by
  unfold clashK at hk
  unfold clash
  obtain ⟨p, hp, e⟩ := List.any_eq_true.1 hk
  exact List.any_eq_true.2 ⟨p, List.mem_of_mem_take hp, e⟩
theorem set_lst {g : Grp} {k : Nat} (hk : k < g.has.length) : g.has.set k (g.lst k) = g.has := by
  unfold Grp.lst
  rw [List.getElem?_eq_getElem hk]
  exact List.set_getElem_self hk
/-! ### how many are known to have more than j -/
def moreN (l : List Int) (j : Int) : Nat := l.countP fun k => decide (j < k)
theorem sortI_more (l : List Int) (j : Int) : moreN (sortI l) j = moreN l j := (List.mergeSort_perm l _).countP_eq _
theorem sortI_len (l : List Int) : (sortI l).length = l.length := (List.mergeSort_perm l _).length_eq
theorem sortI_le (l : List Int) {i j : Nat} (hij : i ≤ j) (hj : j < (sortI l).length) : (sortI l)[i]'(by omega) ≤ (sortI l)[j] := by
  have h : (sortI l).Pairwise fun x y => decide (x ≤ y) = true := List.pairwise_mergeSort (fun a b c => by simp; omega) (fun a b => by simp; omega) l
  rcases Nat.lt_or_ge i j with hlt | hge
  · simpa using List.pairwise_iff_getElem.1 h i j (by omega) hj hlt
  · obtain rfl : i = j := by omega
    exact Int.le_refl _
theorem more_split (l : List Int) (m : Nat) (j : Int) : moreN l j = moreN (l.take m) j + moreN (l.drop m) j := by
  unfold moreN
  conv => lhs; rw [← List.take_append_drop m l]
  rw [List.countP_append]
/-- Below the middle one more than half are known to have more; not there. -/
theorem sure_mid (l : List Int) {m : Nat} (hm : m < l.length) (hmid : m = (l.length - 1) / 2) : (∀ j : Int, j < (sortI l)[m]'(by rw [sortI_len]; exact hm) → l.length < 2 * moreN l j) ∧ 2 * moreN l ((sortI l)[m]'(by rw [sortI_len]; exact hm)) ≤ l.length := by
  have hl := sortI_len l
  refine ⟨fun j hj => ?_, ?_⟩
  · rw [← sortI_more l j, more_split _ m]
    have h1 : moreN ((sortI l).drop m) j = ((sortI l).drop m).length := by
      unfold moreN
      rw [List.countP_eq_length]
      intro k hk
      obtain ⟨i, hi, rfl⟩ := List.mem_iff_getElem.1 hk
      rw [List.getElem_drop]
      rw [List.length_drop] at hi
      have := sortI_le l (i := m) (j := m + i) (by omega) (by omega)
      simp
      omega
    rw [h1, List.length_drop, hl]
    omega
  · rw [← sortI_more l, more_split _ (m + 1)]
    have h1 : moreN ((sortI l).take (m + 1)) ((sortI l)[m]'(by rw [hl]; exact hm)) = 0 := by
      unfold moreN
      rw [List.countP_eq_zero]
      intro k hk
      obtain ⟨i, hi, rfl⟩ := List.mem_iff_getElem.1 hk
      rw [List.getElem_take]
      rw [List.length_take] at hi
      have := sortI_le l (i := i) (j := m) (by omega) (by omega)
      simp
      omega
    have h2 : moreN ((sortI l).drop (m + 1)) ((sortI l)[m]'(by rw [hl]; exact hm)) ≤ ((sortI l).drop (m + 1)).length := List.countP_le_length
    rw [List.length_drop] at h2
    omega
theorem sure_is {g : Grp} (h : GrpOk g) : (∀ j : Int, j < sureV g → g.ack.length < 2 * moreN g.ack j) ∧ 2 * moreN g.ack (sureV g) ≤ g.ack.length ∧ 0 ≤ sureV g ∧ sureV g ≤ 60 := by
  have hm := h.many
  have ha := h.ack
  have hlt : (g.has.length - 1) / 2 < g.ack.length := by omega
  have e : sureV g = (sortI g.ack)[(g.has.length - 1) / 2]'(by rw [sortI_len]; exact hlt) := by
    unfold sureV
    rw [List.getElem?_eq_getElem (by rw [sortI_len]; exact hlt)]
    rfl
  have h1 := sure_mid g.ack hlt (by rw [ha])
  rw [← e] at h1
  refine ⟨h1.1, h1.2, ?_⟩
  have hmem : sureV g ∈ g.ack := by
    rw [e]
    exact (List.mergeSort_perm g.ack _).mem_iff.1 (List.getElem_mem _)
  obtain ⟨i, hi, e2⟩ := List.mem_iff_getElem.1 hmem
  have := h.ak i
  unfold Grp.ak at this
  rw [List.getElem?_eq_getElem hi] at this
  simp at this
  omega
end Go.Proofs.WK
