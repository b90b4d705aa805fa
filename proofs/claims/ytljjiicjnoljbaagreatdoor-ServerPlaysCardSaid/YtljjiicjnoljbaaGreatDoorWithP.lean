/-
  Who refers to whom (P29), and By as the document counts it, as plain data. No program.
-/
import Derived.Test.YtljjiicjnoljbaaGreatDoorDat
import Derived.Test.YtljjiicjnoljbaaGreatDoorPl0
import Derived.Test.YtljjiicjnoljbaaGreatDoorSrtC
namespace Go.Proofs.WK
theorem get_isId {l : List Ver} {id : ByteArray} (h : 0 ≤ getI l id) : isId l id = true := by
  rcases bestC_at (l := l) (id := id) 256 with e | ⟨c, _, e⟩
  · have : getI l id = -1 := e
    omega
  · have e1 : getI l id = livesI l id c := e
    rcases lives_spec l id c l.length (Nat.le_refl _) with h2 | ⟨j, hj, _, _, h5, _, _⟩
    · have : livesI l id c = -1 := h2
      omega
    · unfold hitV at h5
      simp only [Bool.and_eq_true, decide_eq_true_eq] at h5
      exact isId_iff.2 ⟨l[j], List.getElem_mem hj, h5.1⟩
theorem mem_ids_get {l : List Ver} (h0 : storeErr l = 0) (z : ByteArray) : z ∈ idsV l ↔ 0 ≤ getI l z := by
  rw [mem_idsV h0]
  exact ⟨fun h => h.2, fun h => ⟨get_isId h, h⟩⟩
/-- The record of a name that is there. -/
theorem get_there {l : List Ver} (h0 : storeErr l = 0) {z : ByteArray} (hz : z ∈ idsV l) : ∃ j, ∃ h : j < l.length, getI l z = j ∧ getErr l z = 0 ∧ getR l z = l[j].r := by
  have h1 := (mem_ids_get h0 z).1 hz
  have hb := getI_lt l z
  obtain ⟨j, hj⟩ := Int.eq_ofNat_of_zero_le h1
  have hl : j < l.length := by omega
  obtain ⟨e1, e2⟩ := get_hit h0 hl hj
  exact ⟨j, hl, hj, e1, e2⟩
/-- P29: what one name brings. -/
def wOne (all : List ByteArray) (r : List ByteArray) : List ByteArray := r.filter fun s => decide (s ∈ all)
def wAll (l : List Ver) (all ids : List ByteArray) : List ByteArray := ids.flatMap fun id => if id ∈ all then wOne all (id :: (getR l id).refs) else []
def withErr (l : List Ver) (ids : List ByteArray) : Int := if storeErr l ≠ 0 then storeErr l else if 60 < ids.length then 2 else 0
def withV (l : List Ver) (ids : List ByteArray) : List ByteArray := if withErr l ids = 0 then compS (sortS (wAll l (idsV l) ids)) else []
theorem wAll_step {l : List Ver} {all ids : List ByteArray} {k : Nat} (hk : k < ids.length) : wAll l all (ids.take (k + 1)) = wAll l all (ids.take k) ++ if ids[k] ∈ all then wOne all (ids[k] :: (getR l ids[k]).refs) else [] := by
  unfold wAll
  rw [List.take_succ_eq_append_getElem hk, List.flatMap_append]
  simp only [List.flatMap_cons, List.flatMap_nil, List.append_nil]
theorem wOne_step {all r : List ByteArray} {m : Nat} (hm : m < r.length) : wOne all (r.take (m + 1)) = wOne all (r.take m) ++ if r[m] ∈ all then [r[m]] else [] := by
  unfold wOne
  rw [List.take_succ_eq_append_getElem hm, List.filter_append, List.filter_cons, List.filter_nil]
  by_cases h : r[m] ∈ all <;> simp [h]
theorem wOne_len (all r : List ByteArray) : (wOne all r).length ≤ r.length := List.length_filter_le _ _
theorem wAll_len (l : List Ver) (all : List ByteArray) (h : ∀ id ∈ all, (getR l id).refs.length ≤ 4) : ∀ ids : List ByteArray, (wAll l all ids).length ≤ 5 * ids.length
  | [] => by simp [wAll]
  | id :: ids => by
    have ih := wAll_len l all h ids
    unfold wAll at *
    simp only [List.flatMap_cons, List.length_append, List.length_cons]
    have h1 : (if id ∈ all then wOne all (id :: (getR l id).refs) else []).length ≤ 5 := by
      split
      · rename_i hid
        have := wOne_len all (id :: (getR l id).refs)
        have := h id hid
        simp at *
        omega
      · simp
    omega
/-- The document's answer. -/
def refInK (l : List Ver) (ids : List ByteArray) (id : ByteArray) (m : Nat) : Bool := decide (id ∈ ids) || (ids.take m).any fun k => decide (0 ≤ getI l k) && decide (id ∈ (getR l k).refs)
def refW (l : List Ver) (ids all : List ByteArray) : List ByteArray := all.filter fun id => refInK l ids id ids.length
theorem refIn_step {l : List Ver} {ids : List ByteArray} {id : ByteArray} {m : Nat} (hm : m < ids.length) : refInK l ids id (m + 1) = (refInK l ids id m || (decide (0 ≤ getI l ids[m]) && decide (id ∈ (getR l ids[m]).refs))) := by
  unfold refInK
  rw [List.take_succ_eq_append_getElem hm, List.any_append, Bool.or_assoc]
  simp only [List.any_cons, List.any_nil, Bool.or_false]
theorem refW_step {l : List Ver} {ids all : List ByteArray} {k : Nat} (hk : k < all.length) : refW l ids (all.take (k + 1)) = if refInK l ids all[k] ids.length = true then refW l ids (all.take k) ++ [all[k]] else refW l ids (all.take k) := by
  unfold refW
  rw [List.take_succ_eq_append_getElem hk, List.filter_append, List.filter_cons, List.filter_nil]
  by_cases h : refInK l ids all[k] ids.length = true
  · simp [h]
  · simp [h]
theorem refW_len (l : List Ver) (ids all : List ByteArray) (k : Nat) : (refW l ids (all.take k)).length ≤ all.length := Nat.le_trans (List.length_filter_le _ _) (by rw [List.length_take]; exact Nat.min_le_right _ _)
theorem with_eq {l : List Ver} (h0 : storeErr l = 0) (ids : List ByteArray) : compS (sortS (wAll l (idsV l) ids)) = refW l ids (idsV l) := by
  obtain ⟨h1, h2⟩ := comp_sort (wAll l (idsV l) ids)
  refine srt_ext h1 (List.Pairwise.filter _ (srt_idsV l)) fun x => ?_
  rw [h2]
  unfold wAll wOne refW refInK
  rw [List.mem_flatMap, List.mem_filter, List.take_length]
  constructor
  · rintro ⟨id, hid, hx⟩
    split at hx
    · rename_i hall
      rw [List.mem_filter] at hx
      obtain ⟨hx1, hx2⟩ := hx
      refine ⟨by simpa using hx2, ?_⟩
      rcases List.mem_cons.1 hx1 with e | e
      · subst e; simp [hid]
      · rw [Bool.or_eq_true]
        right
        rw [List.any_eq_true]
        exact ⟨id, hid, by rw [decide_eq_true ((mem_ids_get h0 id).1 hall), decide_eq_true e]; rfl⟩
    · cases hx
  · rintro ⟨hx1, hx2⟩
    rw [Bool.or_eq_true] at hx2
    rcases hx2 with h | h
    · exact ⟨x, of_decide_eq_true h, by rw [if_pos hx1, List.mem_filter]; exact ⟨List.mem_cons_self .., decide_eq_true hx1⟩⟩
    · rw [List.any_eq_true] at h
      obtain ⟨k, hk, h⟩ := h
      rw [Bool.and_eq_true] at h
      have hk2 := (mem_ids_get h0 k).2 (of_decide_eq_true h.1)
      exact ⟨k, hk, by rw [if_pos hk2, List.mem_filter]; exact ⟨List.mem_cons_of_mem _ (of_decide_eq_true h.2), decide_eq_true hx1⟩⟩
/-- A field stands in a record at most once. -/
theorem flds_nodup {l : List Fld} (h : fldsOk l = true) : l.Nodup := by
  unfold fldsOk at h
  rw [Bool.and_eq_true] at h
  have h1 := (srtB_iff _).1 h.2
  rw [List.nodup_iff_pairwise_ne]
  unfold Srt at h1
  rw [List.pairwise_map] at h1
  exact h1.imp fun hab e => by
    subst e
    rw [slt_irrefl] at hab
    cases hab
theorem filt_one {α : Type} [DecidableEq α] {f : α} : ∀ {l : List α}, l.Nodup → (l.filter fun g => decide (f = g)) = if f ∈ l then [f] else []
  | [], _ => by simp
  | x :: l, h => by
    have h1 := List.nodup_cons.1 h
    have ih := filt_one (f := f) h1.2
    rw [List.filter_cons]
    by_cases e : f = x
    · subst e
      rw [if_pos (by simp), ih, if_neg h1.1]
      simp
    · rw [if_neg (by simp [e]), ih]
      simp [e]
/-- By, as the document counts: m fields of the name's record have been looked at. -/
def byM (f : Fld) (fs : List Fld) (id : ByteArray) (m : Nat) : List ByteArray := ((fs.take m).filter fun g => decide (f = g)).map fun _ => id
theorem byM_step {f : Fld} {fs : List Fld} {id : ByteArray} {m : Nat} (hm : m < fs.length) : byM f fs id (m + 1) = if f = fs[m] then byM f fs id m ++ [id] else byM f fs id m := by
  unfold byM
  rw [List.take_succ_eq_append_getElem hm, List.filter_append, List.filter_cons, List.filter_nil]
  by_cases h : f = fs[m]
  · rw [if_pos h, if_pos (decide_eq_true h), List.map_append]; rfl
  · rw [if_neg h, if_neg (by simp [h]), List.append_nil]
theorem byM_end {f : Fld} {fs : List Fld} {id : ByteArray} (h : fs.Nodup) : byM f fs id fs.length = if f ∈ fs then [id] else [] := by
  unfold byM
  rw [List.take_length, filt_one h]
  split <;> rfl
theorem byM_len (f : Fld) (fs : List Fld) (id : ByteArray) (m : Nat) : (byM f fs id m).length ≤ m := by
  unfold byM
  rw [List.length_map]
  exact Nat.le_trans (List.length_filter_le _ _) (List.length_take_le _ _)
end Go.Proofs.WK
