/-
  The program's plain data as Lean has them, and what their cells say.
  Kinds that may be: label.Cats, wyref.within, wyref.Cats.
  Records as plain data (P14 to P18). No program.
  Stores as plain data (P21 to P24). No program.
  Stores as plain data (P24 to P29). No program.
  The names of a store that are there (P27), as plain data. No program.
  Records that are looked for (P28, P29), as plain data. No program.
  wykeep.Within.
-/
import Derived.Test.YtljjiicjnoljbaaGreatDoorWk0
import Derived.Test.YtljjiicjnoljbaaGreatDoorProg
import Derived.Test.YtljjiicjnoljbaaGreatDoorPl0
namespace Go.Proofs.WK

structure Lab where
  level : Int
  cats : Int
deriving DecidableEq
structure Who where
  role : Int
  why : Int
  time : Int
deriving DecidableEq
structure Rul where
  role : Int
  why : Int
  frm : Int
  til : Int
  cats : Int
  allow : Bool
deriving DecidableEq
structure Fld where
  key : ByteArray
  val : ByteArray
deriving DecidableEq
structure Rec where
  id : ByteArray
  cats : Int
  fields : List Fld
  refs : List ByteArray
deriving DecidableEq
structure Ver where
  r : Rec
  gone : Bool
deriving DecidableEq
structure Nte where
  who : Who
  id : ByteArray
deriving DecidableEq

namespace Rp
variable {w : World} {ok : Nat → Prop} {cs : List Value}
def whoR : Rp Who := iso (pair int (pair int int)) (fun x => (x.role, x.why, x.time))
def rulR : Rp Rul := iso (pair int (pair int (pair int (pair int (pair int bool))))) (fun x => (x.role, x.why, x.frm, x.til, x.cats, x.allow))
def fldR : Rp Fld := iso (pair str str) (fun x => (x.key, x.val))
def recR : Rp Rec := iso (pair str (pair int (pair (slice fldR) (slice str)))) (fun x => (x.id, x.cats, x.fields, x.refs))
def verR : Rp Ver := iso (pair recR bool) (fun x => (x.r, x.gone))
def nteR : Rp Nte := iso (pair whoR str) (fun x => (x.who, x.id))
def whoC (x : Who) : List Value := [.int .i64 x.role, .int .i64 x.why, .int .i64 x.time]
def rulC (x : Rul) : List Value := [.int .i64 x.role, .int .i64 x.why, .int .i64 x.frm, .int .i64 x.til, .int .i64 x.cats, .bool x.allow]
def fldC (x : Fld) : List Value := [.string x.key, .string x.val]
theorem whoK {x : Who} : whoR.K w ok x cs ↔ cs = whoC x := by
  constructor
  · rintro ⟨_, _, rfl, rfl, _, _, rfl, rfl, rfl⟩; rfl
  · rintro rfl; exact ⟨[_], _, rfl, rfl, [_], _, rfl, rfl, rfl⟩
theorem rulK {x : Rul} : rulR.K w ok x cs ↔ cs = rulC x := by
  constructor
  · rintro ⟨_, _, rfl, rfl, _, _, rfl, rfl, _, _, rfl, rfl, _, _, rfl, rfl, _, _, rfl, rfl, rfl⟩; rfl
  · rintro rfl; exact ⟨[_], _, rfl, rfl, [_], _, rfl, rfl, [_], _, rfl, rfl, [_], _, rfl, rfl, [_], _, rfl, rfl, rfl⟩
theorem fldK {x : Fld} : fldR.K w ok x cs ↔ cs = fldC x := by
  constructor
  · rintro ⟨_, _, rfl, rfl, rfl⟩; rfl
  · rintro rfl; exact ⟨[_], _, rfl, rfl, rfl⟩
theorem recK {x : Rec} : recR.K w ok x cs ↔ ∃ v1 v2, cs = [.string x.id, .int .i64 x.cats, v1, v2] ∧ fldR.Sl w ok v1 x.fields ∧ str.Sl w ok v2 x.refs := by
  constructor
  · rintro ⟨_, _, rfl, rfl, _, _, rfl, rfl, _, _, rfl, ⟨v1, rfl, h1⟩, ⟨v2, rfl, h2⟩⟩; exact ⟨v1, v2, rfl, h1, h2⟩
  · rintro ⟨v1, v2, rfl, h1, h2⟩; exact ⟨[_], _, rfl, rfl, [_], _, rfl, rfl, [_], _, rfl, ⟨v1, rfl, h1⟩, ⟨v2, rfl, h2⟩⟩
theorem verK {x : Ver} : verR.K w ok x cs ↔ ∃ v1 v2, cs = [.string x.r.id, .int .i64 x.r.cats, v1, v2, .bool x.gone] ∧ fldR.Sl w ok v1 x.r.fields ∧ str.Sl w ok v2 x.r.refs := by
  constructor
  · rintro ⟨c0, _, rfl, h, rfl⟩
    obtain ⟨v1, v2, rfl, h1, h2⟩ := recK.1 h
    exact ⟨v1, v2, rfl, h1, h2⟩
  · rintro ⟨v1, v2, rfl, h1, h2⟩; exact ⟨[_, _, _, _], [_], rfl, recK.2 ⟨v1, v2, rfl, h1, h2⟩, rfl⟩
theorem nteK {x : Nte} : nteR.K w ok x cs ↔ cs = [.int .i64 x.who.role, .int .i64 x.who.why, .int .i64 x.who.time, .string x.id] := by
  constructor
  · rintro ⟨c0, _, rfl, h, rfl⟩
    obtain rfl := whoK.1 h
    rfl
  · rintro rfl; exact ⟨whoC x.who, [_], rfl, whoK.2 rfl, rfl⟩
/-- An element of a store, as the walk spells its cells. -/
theorem ver_at {A : Option Addr} {xs : List Ver} (h : verR.Row w ok A xs) {k : Nat} (hk : k < xs.length) : ∃ ad A1 c1 A2 c2, A = some ad ∧ ad.block < w.heap.size ∧
    w.cell? (ad.add (k * 5)) = some (.string xs[k].r.id) ∧ w.cell? ⟨(ad.add (k * 5)).block, (ad.add (k * 5)).off + 1, none⟩ = some (.int .i64 xs[k].r.cats) ∧
    w.cell? ⟨(ad.add (k * 5)).block, (ad.add (k * 5)).off + 2, none⟩ = some (.slice A1 xs[k].r.fields.length c1) ∧ w.cell? ⟨(ad.add (k * 5)).block, (ad.add (k * 5)).off + 3, none⟩ = some (.slice A2 xs[k].r.refs.length c2) ∧
    w.cell? ⟨(ad.add (k * 5)).block, (ad.add (k * 5)).off + 4, none⟩ = some (.bool xs[k].gone) ∧ xs[k].r.fields.length ≤ c1 ∧ xs[k].r.refs.length ≤ c2 ∧ fldR.Row w ok A1 xs[k].r.fields ∧ str.Row w ok A2 xs[k].r.refs := by
  obtain ⟨ad, c, e, hb, _, hK, hc0⟩ := h.at_ hk
  have hc : ∀ i u, c[i]? = some u → w.cell? (ad.add (k * 5 + i)) = some u := hc0
  obtain ⟨_, _, rfl, ⟨A1, c1, rfl, l1, r1⟩, ⟨A2, c2, rfl, l2, r2⟩⟩ := verK.1 hK
  exact ⟨ad, A1, c1, A2, c2, e, hb, hc 0 _ rfl, by rw [← add_field _ _ 1 (by omega)]; exact hc 1 _ rfl, by rw [← add_field _ _ 2 (by omega)]; exact hc 2 _ rfl, by rw [← add_field _ _ 3 (by omega)]; exact hc 3 _ rfl, by rw [← add_field _ _ 4 (by omega)]; exact hc 4 _ rfl, l1, l2, r1, r2⟩
theorem rul_at {A : Option Addr} {xs : List Rul} (h : rulR.Row w ok A xs) {k : Nat} (hk : k < xs.length) : ∃ ad, A = some ad ∧ ad.block < w.heap.size ∧
    w.cell? (ad.add (k * 6)) = some (.int .i64 xs[k].role) ∧ w.cell? ⟨(ad.add (k * 6)).block, (ad.add (k * 6)).off + 1, none⟩ = some (.int .i64 xs[k].why) ∧
    w.cell? ⟨(ad.add (k * 6)).block, (ad.add (k * 6)).off + 2, none⟩ = some (.int .i64 xs[k].frm) ∧ w.cell? ⟨(ad.add (k * 6)).block, (ad.add (k * 6)).off + 3, none⟩ = some (.int .i64 xs[k].til) ∧
    w.cell? ⟨(ad.add (k * 6)).block, (ad.add (k * 6)).off + 4, none⟩ = some (.int .i64 xs[k].cats) ∧ w.cell? ⟨(ad.add (k * 6)).block, (ad.add (k * 6)).off + 5, none⟩ = some (.bool xs[k].allow) := by
  obtain ⟨ad, c, e, hb, _, hK, hc0⟩ := h.at_ hk
  have hc : ∀ i u, c[i]? = some u → w.cell? (ad.add (k * 6 + i)) = some u := hc0
  obtain rfl := rulK.1 hK
  exact ⟨ad, e, hb, hc 0 _ rfl, by rw [← add_field _ _ 1 (by omega)]; exact hc 1 _ rfl, by rw [← add_field _ _ 2 (by omega)]; exact hc 2 _ rfl, by rw [← add_field _ _ 3 (by omega)]; exact hc 3 _ rfl, by rw [← add_field _ _ 4 (by omega)]; exact hc 4 _ rfl, by rw [← add_field _ _ 5 (by omega)]; exact hc 5 _ rfl⟩
theorem fld_at {A : Option Addr} {xs : List Fld} (h : fldR.Row w ok A xs) {k : Nat} (hk : k < xs.length) : ∃ ad, A = some ad ∧ ad.block < w.heap.size ∧
    w.cell? (ad.add (k * 2)) = some (.string xs[k].key) ∧ w.cell? ⟨(ad.add (k * 2)).block, (ad.add (k * 2)).off + 1, none⟩ = some (.string xs[k].val) := by
  obtain ⟨ad, c, e, hb, _, hK, hc0⟩ := h.at_ hk
  have hc : ∀ i u, c[i]? = some u → w.cell? (ad.add (k * 2 + i)) = some u := hc0
  obtain rfl := fldK.1 hK
  exact ⟨ad, e, hb, hc 0 _ rfl, by rw [← add_field _ _ 1 (by omega)]; exact hc 1 _ rfl⟩
end Rp
end Go.Proofs.WK
namespace Go.Proofs.WK
open Go.RowKit Rp
theorem labelCats (n : Int) (w : World) : Calls Tryz.prog 141 #[.int .i64 n] w fun e w' => e = .returned (.bool (decide (0 ≤ n ∧ n ≤ 255))) ∧ w = w' := by
  by_cases h0 : 0 ≤ n <;> by_cases h1 : n < 256 <;>
  · go_enter Tryz.func141, Tryz.ntmps141
    go_wp2
    go_ret
    exact ⟨by simp; omega, rfl⟩
theorem within (x a b : Int) (w : World) : Calls Tryz.prog 90 #[.int .i64 x, .int .i64 a, .int .i64 b] w fun e w' => e = .returned (.bool (decide (a ≤ x ∧ x ≤ b))) ∧ w = w' := by
  by_cases h0 : a ≤ x <;> by_cases h1 : x ≤ b <;>
  · go_enter Tryz.func90, Tryz.ntmps90
    go_wp2
    go_ret
    exact ⟨by simp; omega, rfl⟩
theorem refCats (n : Int) (w : World) : Calls Tryz.prog 157 #[.int .i64 n] w fun e w' => e = .returned (.bool (decide (0 ≤ n ∧ n ≤ 255))) ∧ w = w' := by
  go_enter Tryz.func157, Tryz.ntmps157
  go_wp2_with (go_at_call 90; refine (within _ _ _ _).mono ?_; rintro e w' ⟨rfl, rfl⟩)
  go_ret
  exact ⟨by simp, rfl⟩
end Go.Proofs.WK
namespace Go.Proofs.WK
def idB (c : UInt8) : Bool := (decide (97 ≤ c.toNat) && decide (c.toNat ≤ 122)) || (decide (48 ≤ c.toNat) && decide (c.toNat ≤ 57))
/-- P14. -/
def idOk (s : ByteArray) : Bool := decide (1 ≤ s.size) && decide (s.size ≤ 8) && s.data.toList.all idB
def valB (c : UInt8) : Bool := decide (33 ≤ c.toNat) && decide (c.toNat ≤ 126) && decide (c.toNat ≠ 44) && decide (c.toNat ≠ 59) && decide (c.toNat ≠ 61)
/-- P15. -/
def valOk (s : ByteArray) : Bool := decide (s.size ≤ 12) && s.data.toList.all valB
def fldOk (f : Fld) : Bool := idOk f.key && valOk f.val
def fldsOk (l : List Fld) : Bool := l.all fldOk && srtB (l.map (·.key))
def refsOk (l : List ByteArray) : Bool := l.all idOk && srtB l
/-- P16. -/
def recErr (r : Rec) : Int :=
  if idOk r.id = false then 3 else if ¬ (0 ≤ r.cats ∧ r.cats ≤ 255) then 1 else if 6 < r.fields.length ∨ 4 < r.refs.length then 2 else if fldsOk r.fields = true ∧ refsOk r.refs = true then 0 else 3
theorem recErr_id {r : Rec} (h : idOk r.id = false) : recErr r = 3 := if_pos h
theorem recErr_cats {r : Rec} (h : idOk r.id = true) (h1 : ¬ (0 ≤ r.cats ∧ r.cats ≤ 255)) : recErr r = 1 := by rw [recErr, if_neg (by simp [h]), if_pos h1]
theorem recErr_len {r : Rec} (h : idOk r.id = true) (h1 : 0 ≤ r.cats ∧ r.cats ≤ 255) (h2 : 6 < r.fields.length ∨ 4 < r.refs.length) : recErr r = 2 := by rw [recErr, if_neg (by simp [h]), if_neg (by simp [h1]), if_pos h2]
theorem recErr_end {r : Rec} (h : idOk r.id = true) (h1 : 0 ≤ r.cats ∧ r.cats ≤ 255) (h2 : ¬ (6 < r.fields.length ∨ 4 < r.refs.length)) : recErr r = if fldsOk r.fields = true ∧ refsOk r.refs = true then 0 else 3 := by rw [recErr, if_neg (by simp [h]), if_neg (by simp [h1]), if_neg h2]
theorem rec_ok {r : Rec} (h : recErr r = 0) : idOk r.id = true ∧ 0 ≤ r.cats ∧ r.cats ≤ 255 ∧ r.fields.length ≤ 6 ∧ r.refs.length ≤ 4 ∧ fldsOk r.fields = true ∧ refsOk r.refs = true := by
  unfold recErr at h
  split at h
  · cases h
  · rename_i h0
    split at h
    · cases h
    · rename_i h1
      split at h
      · cases h
      · rename_i h2
        split at h
        · rename_i h3
          refine ⟨by simpa using h0, ?_, ?_, by omega, by omega, h3.1, h3.2⟩ <;> omega
        · cases h
theorem idOk_size {s : ByteArray} (h : idOk s = true) : 1 ≤ s.size ∧ s.size ≤ 8 := by
  unfold idOk at h
  simp only [Bool.and_eq_true, decide_eq_true_eq] at h
  exact h.1
/-- One byte more. -/
theorem all_step (p : UInt8 → Bool) {s : ByteArray} {k : Nat} (hk : k < s.size) : (s.data.toList.take (k + 1)).all p = ((s.data.toList.take k).all p && p s[k]) := by
  have h : k < s.data.toList.length := by simpa using hk
  rw [List.take_succ_eq_append_getElem h, List.all_append]
  simp
  rfl
theorem all_hit {p : UInt8 → Bool} {s : ByteArray} {k : Nat} (hk : k < s.size) (h : p s[k] = false) : s.data.toList.all p = false := by
  rw [List.all_eq_false]
  refine ⟨s[k], ?_, by simp [h]⟩
  have h1 : k < s.data.toList.length := by simpa using hk
  exact List.getElem_mem h1
/-! ### lists, element by element -/
theorem flds_step {l : List Fld} {k : Nat} (hk : k < l.length) : fldsOk (l.take (k + 1)) = (fldsOk (l.take k) && (fldOk l[k] && (decide (k = 0) || slt (l[k - 1]'(by omega)).key l[k].key))) := by
  unfold fldsOk
  rw [List.map_take, List.map_take]
  have h1 : (l.take (k + 1)).all fldOk = ((l.take k).all fldOk && fldOk l[k]) := by rw [List.take_succ_eq_append_getElem hk, List.all_append]; simp
  rw [h1]
  by_cases h0 : k = 0
  · subst h0
    have : srtB (List.take (0 + 1) (l.map (·.key))) = true := by
      match l, hk with
      | a :: _, _ => rfl
    rw [this]
    simp [srtB]
  · rw [srtB_at (l.map (·.key)) k (by omega) (by simpa using hk)]
    simp only [List.getElem_map, h0, decide_false, Bool.false_or]
    cases (l.take k).all fldOk <;> cases fldOk l[k] <;> cases srtB ((l.map (·.key)).take k) <;> simp
theorem refs_step {l : List ByteArray} {k : Nat} (hk : k < l.length) : refsOk (l.take (k + 1)) = (refsOk (l.take k) && (idOk l[k] && (decide (k = 0) || slt (l[k - 1]'(by omega)) l[k]))) := by
  unfold refsOk
  have h1 : (l.take (k + 1)).all idOk = ((l.take k).all idOk && idOk l[k]) := by rw [List.take_succ_eq_append_getElem hk, List.all_append]; simp
  rw [h1]
  by_cases h0 : k = 0
  · subst h0
    have : srtB (List.take (0 + 1) l) = true := by
      match l, hk with
      | a :: _, _ => rfl
    rw [this]
    simp [srtB]
  · rw [srtB_at l k (by omega) hk]
    simp only [h0, decide_false, Bool.false_or]
    cases (l.take k).all idOk <;> cases idOk l[k] <;> cases srtB (l.take k) <;> simp
theorem flds_le {l : List Fld} (h : fldsOk l = true) (k : Nat) : fldsOk (l.take k) = true := by
  unfold fldsOk at h ⊢
  rw [Bool.and_eq_true] at h ⊢
  rw [List.map_take]
  refine ⟨?_, srt_take h.2 k⟩
  rw [List.all_eq_true] at h ⊢
  exact fun x hx => h.1 x (List.mem_of_mem_take hx)
theorem refs_le {l : List ByteArray} (h : refsOk l = true) (k : Nat) : refsOk (l.take k) = true := by
  unfold refsOk at h ⊢
  rw [Bool.and_eq_true] at h ⊢
  refine ⟨?_, srt_take h.2 k⟩
  rw [List.all_eq_true] at h ⊢
  exact fun x hx => h.1 x (List.mem_of_mem_take hx)
theorem flds_bad {l : List Fld} {k : Nat} (hk : k < l.length) (h : (fldOk l[k] && (decide (k = 0) || slt (l[k - 1]'(by omega)).key l[k].key)) = false) : fldsOk l = false := Bool.eq_false_iff.2 fun h1 => by
  have h2 := flds_le h1 (k + 1)
  rw [flds_step hk, h, Bool.and_false] at h2
  cases h2
theorem refs_bad {l : List ByteArray} {k : Nat} (hk : k < l.length) (h : (idOk l[k] && (decide (k = 0) || slt (l[k - 1]'(by omega)) l[k])) = false) : refsOk l = false := Bool.eq_false_iff.2 fun h1 => by
  have h2 := refs_le h1 (k + 1)
  rw [refs_step hk, h, Bool.and_false] at h2
  cases h2
end Go.Proofs.WK
namespace Go.Proofs.WK
/-- The first of f 0 .. f (n - 1) that is not 0. -/
def firstI (f : Nat → Int) : Nat → Int
  | 0 => 0
  | k + 1 => if firstI f k = 0 then f k else firstI f k
theorem firstI_hit {f : Nat → Int} {k n : Nat} (hk : k < n) (h : firstI f k = 0) (h0 : f k ≠ 0) : firstI f n = f k := by
  induction n with
  | zero => omega
  | succ n ih =>
    rcases Nat.lt_or_eq_of_le (Nat.le_of_lt_succ hk) with h1 | h1
    · rw [firstI, ih h1, if_neg h0]
    · subst h1; rw [firstI, if_pos h]
theorem firstI_step {f : Nat → Int} {k : Nat} (h : firstI f k = 0) (h0 : f k = 0) : firstI f (k + 1) = 0 := by rw [firstI, if_pos h, h0]
theorem firstI_none {f : Nat → Int} {n : Nat} (h : firstI f n = 0) : ∀ k, k < n → f k = 0 := by
  induction n with
  | zero => intro k hk; omega
  | succ n ih =>
    rw [firstI] at h
    split at h
    · rename_i h1
      intro k hk
      rcases Nat.lt_or_eq_of_le (Nat.le_of_lt_succ hk) with h2 | h2
      · exact ih h1 k h2
      · subst h2; exact h
    · exact absurd h ‹_›
/-- Is it a version of id with just these kinds? -/
def hitV (v : Ver) (id : ByteArray) (c : Int) : Bool := decide (v.r.id = id) && decide (v.r.cats = c)
/-- Where the last of the first k versions of id with just these kinds stands that lives; -1: none. -/
def livesK (l : List Ver) (id : ByteArray) (c : Int) : Nat → Int
  | 0 => -1
  | k + 1 => match l[k]? with
    | some v => if hitV v id c = true then (if v.gone = true then -1 else (k : Int)) else livesK l id c k
    | none => livesK l id c k
def livesI (l : List Ver) (id : ByteArray) (c : Int) : Int := livesK l id c l.length
theorem livesK_step {l : List Ver} {id : ByteArray} {c : Int} {k : Nat} (hk : k < l.length) : livesK l id c (k + 1) = if hitV l[k] id c = true then (if l[k].gone = true then -1 else (k : Int)) else livesK l id c k := by
  rw [livesK, List.getElem?_eq_getElem hk]
theorem livesK_take {l : List Ver} {id : ByteArray} {c : Int} {n : Nat} : ∀ k, k ≤ n → livesK (l.take n) id c k = livesK l id c k
  | 0, _ => rfl
  | k + 1, h => by
    rw [livesK, livesK, livesK_take k (by omega), List.getElem?_take, if_pos (by omega)]
theorem livesI_take {l : List Ver} {id : ByteArray} {c : Int} {n : Nat} (h : n ≤ l.length) : livesI (l.take n) id c = livesK l id c n := by
  unfold livesI
  rw [List.length_take, Nat.min_eq_left h, livesK_take _ (Nat.le_refl _)]
theorem livesK_lt (l : List Ver) (id : ByteArray) (c : Int) : ∀ k, -1 ≤ livesK l id c k ∧ livesK l id c k < k
  | 0 => by simp [livesK]
  | k + 1 => by
    have ih := livesK_lt l id c k
    rw [livesK]
    split
    · split
      · split <;> omega
      · omega
    · omega
/-- How many versions have just these kinds. -/
def sameN (l : List Ver) (c : Int) : Nat := (l.filter fun v => decide (v.r.cats = c)).length
theorem sameN_step {l : List Ver} {k : Nat} (hk : k < l.length) (c : Int) : sameN (l.take (k + 1)) c = sameN (l.take k) c + if l[k].r.cats = c then 1 else 0 := by
  unfold sameN
  rw [List.take_succ_eq_append_getElem hk, List.filter_append, List.length_append]
  by_cases h : l[k].r.cats = c <;> simp [h]
theorem sameN_le (l : List Ver) (c : Int) : sameN l c ≤ l.length := List.length_filter_le _ _
def goneBad (l : List Ver) (v : Ver) (i : Nat) : Bool := v.gone && (decide (0 < v.r.fields.length) || decide (0 < v.r.refs.length) || decide (livesK l v.r.id v.r.cats i < 0))
def verErr (l : List Ver) (i : Nat) : Int := match l[i]? with
  | none => 0
  | some v => if recErr v.r ≠ 0 then recErr v.r else if 20 < sameN (l.take (i + 1)) v.r.cats then 2 else if goneBad l v i = true then 3 else 0
theorem verErr_at {l : List Ver} {i : Nat} (h : i < l.length) : verErr l i = if recErr l[i].r ≠ 0 then recErr l[i].r else if 20 < sameN (l.take (i + 1)) l[i].r.cats then 2 else if goneBad l l[i] i = true then 3 else 0 := by
  unfold verErr
  rw [List.getElem?_eq_getElem h]
/-- P21. -/
def storeErr (l : List Ver) : Int := if 5120 < l.length then 2 else firstI (verErr l) l.length
theorem store_ok {l : List Ver} (h : storeErr l = 0) : l.length ≤ 5120 ∧ ∀ i (hi : i < l.length), recErr l[i].r = 0 ∧ sameN (l.take (i + 1)) l[i].r.cats ≤ 20 ∧ goneBad l l[i] i = false := by
  unfold storeErr at h
  split at h
  · cases h
  · refine ⟨by omega, fun i hi => ?_⟩
    have h1 := firstI_none h i hi
    rw [verErr_at hi] at h1
    split at h1
    · exact absurd h1 ‹_›
    · split at h1
      · cases h1
      · split at h1
        · cases h1
        · exact ⟨by simpa using ‹¬ recErr _ ≠ 0›, by omega, by simpa using ‹¬ goneBad _ _ _ = true›⟩
theorem store_rec {l : List Ver} (h : storeErr l = 0) : ∀ v ∈ l, recErr v.r = 0 := fun v hv => by
  obtain ⟨i, hi, rfl⟩ := List.getElem_of_mem hv
  exact ((store_ok h).2 i hi).1
/-- Never more than twenty of the same kinds. -/
theorem store_same {l : List Ver} (h : storeErr l = 0) (c : Int) : sameN l c ≤ 20 := by
  have key : ∀ k, k ≤ l.length → sameN (l.take k) c ≤ 20 := by
    intro k
    induction k with
    | zero => intro _; simp [sameN]
    | succ k ih =>
      intro hk
      by_cases hc : l[k].r.cats = c
      · have := ((store_ok h).2 k (by omega)).2.1
        rwa [hc] at this
      · rw [sameN_step (by omega), if_neg hc]
        exact ih (by omega)
  have := key l.length (Nat.le_refl _)
  rwa [List.take_length] at this
/-- P22. -/
def putErr (l : List Ver) (r : Rec) : Int := if storeErr l ≠ 0 then storeErr l else if recErr r ≠ 0 then recErr r else if 20 ≤ sameN l r.cats then 2 else 0
def putV (l : List Ver) (r : Rec) : List Ver := if putErr l r = 0 then l ++ [⟨r, false⟩] else []
/-- P23. -/
def cutErr (l : List Ver) (id : ByteArray) (c : Int) : Int :=
  if storeErr l ≠ 0 then storeErr l else if idOk id = false then 3 else if ¬ (0 ≤ c ∧ c ≤ 255) then 1 else if livesI l id c < 0 then 4 else if 20 ≤ sameN l c then 2 else 0
def cutV (l : List Ver) (id : ByteArray) (c : Int) : List Ver := if cutErr l id c = 0 then l ++ [⟨⟨id, c, [], []⟩, true⟩] else []
end Go.Proofs.WK
namespace Go.Proofs.WK
/-- The last version of id that lives, of the kinds below c; -1: none. -/
def bestC (l : List Ver) (id : ByteArray) : Nat → Int
  | 0 => -1
  | c + 1 => max (bestC l id c) (livesI l id c)
/-- P25. -/
def getI (l : List Ver) (id : ByteArray) : Int := bestC l id 256
theorem bestC_lt (l : List Ver) (id : ByteArray) : ∀ c, -1 ≤ bestC l id c ∧ bestC l id c < l.length
  | 0 => by simp [bestC]; omega
  | c + 1 => by
    have ih := bestC_lt l id c
    have h := livesK_lt l id c l.length
    unfold bestC livesI
    omega
theorem getI_lt (l : List Ver) (id : ByteArray) : -1 ≤ getI l id ∧ getI l id < l.length := bestC_lt l id 256
theorem bestC_ge {l : List Ver} {id : ByteArray} {c n : Nat} (h : c < n) : livesI l id c ≤ bestC l id n := by
  induction n with
  | zero => omega
  | succ n ih =>
    unfold bestC
    by_cases hc : c = n
    · subst hc; omega
    · have := ih (by omega); omega
theorem bestC_le {l : List Ver} {id : ByteArray} {b : Int} (h0 : -1 ≤ b) (h : ∀ c : Nat, c < 256 → livesI l id c ≤ b) : ∀ n, n ≤ 256 → bestC l id n ≤ b
  | 0, _ => h0
  | n + 1, hn => by
    have := bestC_le h0 h n (by omega)
    have := h n (by omega)
    unfold bestC
    omega
theorem bestC_at {l : List Ver} {id : ByteArray} : ∀ n, bestC l id n = -1 ∨ ∃ c : Nat, c < n ∧ bestC l id n = livesI l id c
  | 0 => .inl rfl
  | n + 1 => by
    unfold bestC
    rcases bestC_at (l := l) (id := id) n with h | ⟨c, hc, h⟩
    · rw [h]
      have := (livesK_lt l id n l.length).1
      by_cases h2 : livesI l id n = -1
      · left; rw [h2]; rfl
      · right
        refine ⟨n, by omega, ?_⟩
        unfold livesI at *
        omega
    · by_cases h2 : livesI l id c ≤ livesI l id n
      · exact .inr ⟨n, by omega, by omega⟩
      · exact .inr ⟨c, by omega, by omega⟩
/-- Where the last that lives stands: told by what stands there, and behind it. -/
theorem lives_at {l : List Ver} {id : ByteArray} {c : Int} {j : Nat} (hj : j < l.length) (hh : hitV l[j] id c = true) (hg : l[j].gone = false) (hn : ∀ k (h : k < l.length), j < k → hitV l[k] id c = false) : livesI l id c = j := by
  have key : ∀ n, j < n → n ≤ l.length → livesK l id c n = j := by
    intro n
    induction n with
    | zero => intro h; omega
    | succ n ih =>
      intro h1 h2
      rw [livesK_step (by omega)]
      rcases Nat.lt_or_eq_of_le (Nat.le_of_lt_succ h1) with h3 | h3
      · rw [hn n (by omega) h3, if_neg (by simp)]
        exact ih h3 (by omega)
      · subst h3
        rw [if_pos hh, hg]
        rfl
  exact key _ hj (Nat.le_refl _)
theorem lives_spec (l : List Ver) (id : ByteArray) (c : Int) : ∀ n, n ≤ l.length → livesK l id c n = -1 ∨ ∃ j, ∃ h : j < l.length, j < n ∧ livesK l id c n = j ∧ hitV l[j] id c = true ∧ l[j].gone = false ∧ ∀ k (h : k < l.length), j < k → k < n → hitV l[k] id c = false
  | 0, _ => .inl rfl
  | n + 1, hn => by
    rw [livesK_step (by omega)]
    by_cases hh : hitV l[n] id c = true
    · rw [if_pos hh]
      cases hg : l[n].gone
      · exact .inr ⟨n, by omega, by omega, rfl, hh, hg, fun k _ h1 h2 => by omega⟩
      · exact .inl rfl
    · rw [if_neg hh]
      rcases lives_spec l id c n (by omega) with h | ⟨j, hj, h1, h2, h3, h4, h5⟩
      · exact .inl h
      · refine .inr ⟨j, hj, by omega, h2, h3, h4, fun k hk a b => ?_⟩
        rcases Nat.lt_or_eq_of_le (Nat.le_of_lt_succ b) with h6 | h6
        · exact h5 k hk a h6
        · subst h6; simpa using hh
/-- The search from behind: what stands from m on is done. -/
structure GetAt (l : List Ver) (id : ByteArray) (m : Nat) : Prop where
  below : ∀ c : Nat, c < 256 → livesI l id c < m
/-- Has a version from m on the kinds c? -/
def goneF (l : List Ver) (id : ByteArray) (m : Nat) (c : Int) : Option Bool := if (l.drop m).any (fun v => hitV v id c) = true then some true else none
theorem GetAt.start (l : List Ver) (id : ByteArray) : GetAt l id l.length := ⟨fun c _ => (livesK_lt l id c l.length).2⟩
theorem any_hit {l : List Ver} {id : ByteArray} {m : Nat} {c : Int} : (l.drop m).any (fun v => hitV v id c) = true ↔ ∃ k, ∃ h : k < l.length, m ≤ k ∧ hitV l[k] id c = true := by
  rw [List.any_eq_true]
  constructor
  · rintro ⟨v, hv, hh⟩
    obtain ⟨i, hi, rfl⟩ := List.getElem_of_mem hv
    rw [List.getElem_drop] at hh
    exact ⟨m + i, by simp at hi; omega, by omega, hh⟩
  · rintro ⟨k, hk, hm, hh⟩
    refine ⟨l[k], ?_, hh⟩
    have : l[k] = (l.drop m)[k - m]'(by simp; omega) := by rw [List.getElem_drop]; congr 1; omega
    rw [this]
    exact List.getElem_mem _
theorem goneF_drop {l : List Ver} {j : Nat} (hj : j < l.length) (id : ByteArray) (c : Int) : goneF l id j c = if hitV l[j] id c = true then some true else goneF l id (j + 1) c := by
  unfold goneF
  rw [List.drop_eq_getElem_cons hj, List.any_cons]
  cases hitV l[j] id c <;> simp
theorem GetAt.other {l : List Ver} {id : ByteArray} {j : Nat} (h : GetAt l id (j + 1)) (hj : j < l.length) (hno : ∀ c : Nat, c < 256 → hitV l[j] id c = true → l[j].gone = true ∨ goneF l id (j + 1) c = some true) : GetAt l id j := by
  refine ⟨fun c hc => ?_⟩
  have h1 := h.below c hc
  rcases lives_spec l id c l.length (Nat.le_refl _) with h2 | ⟨k, hk, h3, h4, h5, h6, h7⟩
  · have e : livesI l id c = -1 := h2
    omega
  · have e : livesI l id c = k := h4
    rw [e] at h1 ⊢
    by_cases hkj : k = j
    · subst hkj
      rcases hno c hc h5 with h8 | h8
      · rw [h6] at h8; cases h8
      · unfold goneF at h8
        split at h8
        · rename_i h9
          obtain ⟨n, hn, h10, h11⟩ := any_hit.1 h9
          rw [h7 n hn (by omega) hn] at h11
          cases h11
        · cases h8
    · omega
/-- It is found. -/
theorem GetAt.hit {l : List Ver} {id : ByteArray} {j : Nat} (h : GetAt l id (j + 1)) (hj : j < l.length) {c : Nat} (hc : c < 256) (hh : hitV l[j] id c = true) (hg : l[j].gone = false) (hn : goneF l id (j + 1) c = none) : getI l id = j := by
  have e : livesI l id c = j := lives_at hj hh hg fun k hk hjk => by
    cases h1 : hitV l[k] id c
    · rfl
    · unfold goneF at hn
      rw [if_pos (any_hit.2 ⟨k, hk, hjk, h1⟩)] at hn
      cases hn
  refine Int.le_antisymm (bestC_le (by omega) (fun c' hc' => by have := h.below c' hc'; omega) 256 (Nat.le_refl _)) ?_
  have := bestC_ge (l := l) (id := id) (n := 256) hc
  rw [e] at this
  exact this
theorem GetAt.none {l : List Ver} {id : ByteArray} (h : GetAt l id 0) : getI l id = -1 :=
  Int.le_antisymm (bestC_le (by omega) (fun c hc => by have := h.below c hc; omega) 256 (Nat.le_refl _)) (getI_lt l id).1
def noRec : Rec := ⟨⟨#[]⟩, 0, [], []⟩
def getErr (l : List Ver) (id : ByteArray) : Int := if storeErr l ≠ 0 then storeErr l else if getI l id < 0 then 4 else 0
/-- P25: the record. -/
def getR (l : List Ver) (id : ByteArray) : Rec := if getErr l id = 0 then (l[(getI l id).toNat]?).elim noRec (·.r) else noRec
theorem get_hit {l : List Ver} {id : ByteArray} {j : Nat} (h0 : storeErr l = 0) (hj : j < l.length) (h : getI l id = j) : getErr l id = 0 ∧ getR l id = l[j].r := by
  have e : getErr l id = 0 := by rw [getErr, if_neg (by simpa using h0), h, if_neg (by omega)]
  refine ⟨e, ?_⟩
  rw [getR, if_pos e, h, Int.toNat_natCast, List.getElem?_eq_getElem hj]
  rfl
theorem get_none {l : List Ver} {id : ByteArray} (h0 : storeErr l = 0) (h : getI l id = -1) : getErr l id = 4 ∧ getR l id = noRec := by
  have e : getErr l id = 4 := by rw [getErr, if_neg (by simpa using h0), h]; rfl
  exact ⟨e, by rw [getR, e]; rfl⟩
end Go.Proofs.WK
namespace Go.Proofs.WK
def isId (l : List Ver) (z : ByteArray) : Bool := l.any fun v => decide (v.r.id = z)
theorem isId_iff {l : List Ver} {z : ByteArray} : isId l z = true ↔ ∃ v ∈ l, v.r.id = z := by simp [isId]
theorem isId_step {l : List Ver} {k : Nat} (hk : k < l.length) (z : ByteArray) : isId (l.take (k + 1)) z = (isId (l.take k) z || decide (l[k].r.id = z)) := by
  unfold isId
  rw [List.take_succ_eq_append_getElem hk, List.any_append]
  simp only [List.any_cons, List.any_nil, Bool.or_false]
def seenF (l : List Ver) (k : Nat) (z : ByteArray) : Option Bool := if isId (l.take k) z = true then some true else none
theorem seenF_zero (l : List Ver) : seenF l 0 = fun _ => none := by
  funext z
  simp [seenF, isId]
theorem seenF_put {l : List Ver} {k : Nat} (hk : k < l.length) : (fun z => if z = l[k].r.id then some true else seenF l k z) = seenF l (k + 1) := by
  funext z
  unfold seenF
  rw [isId_step hk]
  by_cases h : z = l[k].r.id
  · subst h; simp
  · rw [if_neg h]
    have h2 : decide (l[k].r.id = z) = false := by simp; exact fun e => h e.symm
    rw [h2, Bool.or_false]
theorem seenF_same {l : List Ver} {k : Nat} (hk : k < l.length) (h : isId (l.take k) l[k].r.id = true) : seenF l (k + 1) = seenF l k := by
  rw [← seenF_put hk]
  funext z
  by_cases hz : z = l[k].r.id
  · subst hz; rw [if_pos rfl, seenF, if_pos h]
  · rw [if_neg hz]
theorem seenF_get (l : List Ver) (k : Nat) (z : ByteArray) : (seenF l k z).getD false = isId (l.take k) z := by
  unfold seenF
  cases isId (l.take k) z <;> rfl
/-- The names of the first k versions, each once, of which a version lives. -/
def idsK (l : List Ver) : Nat → List ByteArray
  | 0 => []
  | k + 1 => match l[k]? with
    | none => idsK l k
    | some v => if isId (l.take k) v.r.id = true then idsK l k else if getI l v.r.id < 0 then idsK l k else idsK l k ++ [v.r.id]
theorem idsK_step {l : List Ver} {k : Nat} (hk : k < l.length) : idsK l (k + 1) = if isId (l.take k) l[k].r.id = true then idsK l k else if getI l l[k].r.id < 0 then idsK l k else idsK l k ++ [l[k].r.id] := by
  rw [idsK, List.getElem?_eq_getElem hk]
theorem idsK_seen {l : List Ver} {k : Nat} (hk : k < l.length) (h : isId (l.take k) l[k].r.id = true) : idsK l (k + 1) = idsK l k := by rw [idsK_step hk, if_pos h]
theorem idsK_gone {l : List Ver} {k : Nat} (hk : k < l.length) (h : isId (l.take k) l[k].r.id = false) (hg : getI l l[k].r.id < 0) : idsK l (k + 1) = idsK l k := by rw [idsK_step hk, if_neg (by simp [h]), if_pos hg]
theorem idsK_new {l : List Ver} {k : Nat} (hk : k < l.length) (h : isId (l.take k) l[k].r.id = false) (hg : ¬ getI l l[k].r.id < 0) : idsK l (k + 1) = idsK l k ++ [l[k].r.id] := by rw [idsK_step hk, if_neg (by simp [h]), if_neg hg]
theorem length_idsK (l : List Ver) : ∀ k, (idsK l k).length ≤ k
  | 0 => Nat.le_refl _
  | k + 1 => by
    have ih := length_idsK l k
    unfold idsK
    split
    · omega
    · split
      · omega
      · split
        · omega
        · simp; omega
theorem mem_idsK (l : List Ver) (z : ByteArray) : ∀ k, k ≤ l.length → (z ∈ idsK l k ↔ isId (l.take k) z = true ∧ 0 ≤ getI l z)
  | 0, _ => by simp [idsK, isId]
  | k + 1, hk => by
    have ih := mem_idsK l z k (by omega)
    have hk' : k < l.length := by omega
    rw [idsK_step hk', isId_step hk']
    by_cases hz : l[k].r.id = z
    · subst hz
      rw [decide_eq_true rfl, Bool.or_true]
      split
      · rename_i h1
        rw [ih, h1]
      · rename_i h1
        split
        · rename_i h2
          rw [ih]
          constructor
          · rintro ⟨h3, _⟩; exact absurd h3 h1
          · rintro ⟨_, h3⟩; omega
        · rename_i h2
          simp; omega
    · rw [show decide (l[k].r.id = z) = false by simp [hz], Bool.or_false]
      split
      · exact ih
      · split
        · exact ih
        · rw [List.mem_append, ih]
          constructor
          · rintro (h | h)
            · exact h
            · simp at h; exact absurd h.symm hz
          · exact .inl
theorem nodup_idsK (l : List Ver) : ∀ k, k ≤ l.length → (idsK l k).Nodup
  | 0, _ => by simp [idsK]
  | k + 1, hk => by
    have ih := nodup_idsK l k (by omega)
    rw [idsK_step (by omega)]
    split
    · exact ih
    · rename_i h1
      split
      · exact ih
      · rw [List.nodup_append]
        refine ⟨ih, by simp, fun a ha b hb => ?_⟩
        simp at hb
        subst hb
        intro e
        subst e
        exact h1 ((mem_idsK l _ k (by omega)).1 ha).1
/-- P27. -/
def idsV (l : List Ver) : List ByteArray := if storeErr l = 0 then sortS (idsK l l.length) else []
/-- A list without doubles of just these names, sorted. -/
theorem ids_ext {l : List Ver} {xs : List ByteArray} (h0 : storeErr l = 0) (hn : xs.Nodup) (hm : ∀ z, z ∈ xs ↔ isId l z = true ∧ 0 ≤ getI l z) : sortS xs = idsV l := by
  rw [idsV, if_pos h0]
  refine srt_ext (srt_sortS hn) (srt_sortS (nodup_idsK l _ (Nat.le_refl _))) fun z => ?_
  rw [mem_sortS, mem_sortS, hm, mem_idsK l z _ (Nat.le_refl _), List.take_length]
theorem mem_idsV {l : List Ver} (h0 : storeErr l = 0) (z : ByteArray) : z ∈ idsV l ↔ isId l z = true ∧ 0 ≤ getI l z := by
  rw [idsV, if_pos h0, mem_sortS, mem_idsK l z _ (Nat.le_refl _), List.take_length]
theorem srt_idsV (l : List Ver) : Srt (idsV l) := by
  unfold idsV
  split
  · exact srt_sortS (nodup_idsK l _ (Nat.le_refl _))
  · exact List.Pairwise.nil
theorem length_idsV (l : List Ver) : (idsV l).length ≤ l.length := by
  unfold idsV
  split
  · rw [length_sortS]; exact length_idsK l _
  · simp
theorem get_err {l : List Ver} (h0 : storeErr l = 0) (id : ByteArray) : getErr l id = if getI l id < 0 then 4 else 0 := by rw [getErr, if_neg (by simpa using h0)]
end Go.Proofs.WK
namespace Go.Proofs.WK
/-- P28: among these names. -/
def byF (l : List Ver) (f : Fld) (ids : List ByteArray) : List ByteArray := ids.filter fun id => decide (f ∈ (getR l id).fields)
def byErr (l : List Ver) (f : Fld) : Int := if storeErr l ≠ 0 then storeErr l else if idOk f.key = true ∧ valOk f.val = true then 0 else 3
def byV (l : List Ver) (f : Fld) : List ByteArray := if byErr l f = 0 then byF l f (idsV l) else []
theorem byF_zero (l : List Ver) (f : Fld) (ids : List ByteArray) : byF l f (ids.take 0) = [] := rfl
theorem byF_step {l : List Ver} {f : Fld} {ids : List ByteArray} {k : Nat} (hk : k < ids.length) : byF l f (ids.take (k + 1)) = if f ∈ (getR l ids[k]).fields then byF l f (ids.take k) ++ [ids[k]] else byF l f (ids.take k) := by
  unfold byF
  rw [List.take_succ_eq_append_getElem hk, List.filter_append, List.filter_cons, List.filter_nil]
  by_cases h : f ∈ (getR l ids[k]).fields
  · simp [h]
  · simp [h]
theorem byF_len (l : List Ver) (f : Fld) (ids : List ByteArray) (k : Nat) : (byF l f (ids.take k)).length ≤ ids.length := Nat.le_trans (List.length_filter_le _ _) (by rw [List.length_take]; exact Nat.min_le_right _ _)
theorem by_ways (l : List Ver) (f : Fld) (h : storeErr l = 0) : ((idOk f.key = false) ∧ Aside (byErr l f = 3 ∧ byV l f = [])) ∨ ((idOk f.key = true ∧ valOk f.val = false) ∧ Aside (byErr l f = 3 ∧ byV l f = [])) ∨ ((idOk f.key = true ∧ valOk f.val = true) ∧ Aside (byErr l f = 0 ∧ byV l f = byF l f (idsV l))) := by
  cases h1 : idOk f.key
  · have e : byErr l f = 3 := by rw [byErr, if_neg (by simpa using h), if_neg (by simp [h1])]
    exact .inl ⟨rfl, ⟨e, by rw [byV, e]; rfl⟩⟩
  · cases h2 : valOk f.val
    · have e : byErr l f = 3 := by rw [byErr, if_neg (by simpa using h), if_neg (by simp [h2])]
      exact .inr (.inl ⟨⟨rfl, rfl⟩, ⟨e, by rw [byV, e]; rfl⟩⟩)
    · have e : byErr l f = 0 := by rw [byErr, if_neg (by simpa using h), if_pos ⟨h1, h2⟩]
      exact .inr (.inr ⟨⟨rfl, rfl⟩, ⟨e, by rw [byV, if_pos e]⟩⟩)
end Go.Proofs.WK
namespace Go.Proofs.WK
open Go.RowKit Rp
def withinV (x n : Int) : Int := x % 18446744073709551616 % n
theorem withinV_lt {x n : Int} (h : 0 < n) : 0 ≤ withinV x n ∧ withinV x n < n := ⟨Int.emod_nonneg _ (by omega), Int.emod_lt_of_pos _ h⟩
theorem within_eq {x n : Int} (h0 : 0 < n) (h1 : n ≤ 1000) : wrap64 ((IntKind.u64.wrap x).tmod n) = withinV x n := by
  have e : IntKind.u64.wrap x = x % 18446744073709551616 := by simp [IntKind.wrap, IntKind.bits, IntKind.signed]
  rw [e, Int.tmod_eq_emod_of_nonneg (Int.emod_nonneg _ (by omega))]
  have h := withinV_lt (x := x) h0
  show wrap64 (withinV x n) = withinV x n
  generalize withinV x n = y at *
  unfold wrap64
  omega
set_option maxRecDepth 100000 in
theorem withinC (x n : Int) (h0 : 0 < n) (h1 : n ≤ 1000) (w : World) :
    Calls Tryz.prog 15 #[.int .i64 x, .int .i64 n] w fun e w' => e = .returned (.int .i64 (withinV x n)) ∧ w = w' := by
  go_enter Tryz.func15, Tryz.ntmps15
  go_wp2_with fail
  go_ret
  exact ⟨by rw [← within_eq h0 h1]; rfl, rfl⟩
end Go.Proofs.WK
