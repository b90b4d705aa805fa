/-
  Numerals as plain data: a number as text, and a text as a number. No program.
  Texts as plain data: lists with a byte between, records as texts (P19, P20). No walk.
-/
import Derived.Lib.ItoaLen
import Derived.Lib.Atoi
import Derived.Lib.AtoiAllCases
import Derived.Lib.AtoiOr
import Derived.Lib.SplitLaws
import Derived.Lib.Join
import Derived.Test.YtljjiicjnoljbaaGreatDoorPl0
import Derived.Test.YtljjiicjnoljbaaGreatDoorDat
namespace Go.Proofs.WK
/-- Bytes as a text. -/
def bs (l : List UInt8) : ByteArray := ⟨l.toArray⟩
theorem bs_data (l : List UInt8) : (bs l).data.toList = l := rfl
theorem data_bs (s : ByteArray) : bs s.data.toList = s := rfl
theorem bs_inj {a b : List UInt8} : bs a = bs b ↔ a = b := ⟨fun h => by have := congrArg (fun s : ByteArray => s.data.toList) h; simpa [bs] using this, fun h => by rw [h]⟩
theorem bs_size (l : List UInt8) : (bs l).size = l.length := by simp [bs, ByteArray.size]
theorem bs_app (a b : List UInt8) : bs a ++ bs b = bs (a ++ b) := toL_inj (by simp [bs])
theorem app_data (a b : ByteArray) : (a ++ b).data.toList = a.data.toList ++ b.data.toList := by simp
/-- A number as text. -/
def decS (n : Int) : ByteArray := bs (Lib.itoa n)
def dgt (n : Int) : UInt8 := UInt8.ofNat (48 + n.natAbs % 10)
theorem digits_rec (u : Nat) : Lib.decDigits u = if u / 10 = 0 then [UInt8.ofNat (48 + u % 10)] else Lib.decDigits (u / 10) ++ [UInt8.ofNat (48 + u % 10)] := by
  rw [Lib.decDigits]
  by_cases h : u < 10
  · rw [dif_pos h, if_pos (by omega), Nat.mod_eq_of_lt h]
  · rw [dif_neg h, if_neg (by omega)]
/-- One digit more. -/
theorem itoa_rec (n : Int) : Lib.itoa n = if n.tdiv 10 = 0 then (if n < 0 then [45, dgt n] else [dgt n]) else Lib.itoa (n.tdiv 10) ++ [dgt n] := by
  unfold Lib.itoa dgt
  by_cases h : n < 0
  · obtain ⟨m, rfl⟩ : ∃ m : Nat, n = -(m : Int) := ⟨n.natAbs, by omega⟩
    have e : (-(m : Int)).tdiv 10 = -((m / 10 : Nat) : Int) := by rw [Int.neg_tdiv, Int.ofNat_tdiv]; rfl
    rw [if_pos h, e, if_pos h, Int.natAbs_neg, Int.natAbs_natCast, digits_rec m]
    by_cases h1 : m / 10 = 0
    · rw [if_pos h1, if_pos (by omega)]
    · rw [if_neg h1, if_neg (by omega), if_pos (by omega), Int.natAbs_neg, Int.natAbs_natCast]
      rfl
  · obtain ⟨m, rfl⟩ : ∃ m : Nat, n = (m : Int) := ⟨n.toNat, by omega⟩
    have e : ((m : Int)).tdiv 10 = ((m / 10 : Nat) : Int) := by rw [Int.ofNat_tdiv]; rfl
    rw [if_neg h, e, if_neg h, Int.natAbs_natCast, Int.toNat_natCast, digits_rec m]
    by_cases h1 : m / 10 = 0
    · rw [if_pos h1, if_pos (by omega)]
    · rw [if_neg h1, if_neg (by omega), if_neg (by omega), Int.toNat_natCast]
theorem digit_val : ∀ d : Fin 10, Lib.digitVal (UInt8.ofNat (48 + d.val)) = some d.val ∧ 48 ≤ (UInt8.ofNat (48 + d.val)).toNat ∧ (UInt8.ofNat (48 + d.val)).toNat ≤ 57 := by decide
theorem decFrom_snoc (b : UInt8) : ∀ (l : List UInt8) (acc : Nat), Lib.decFrom acc (l ++ [b]) = (Lib.decFrom acc l).bind fun n => (Lib.digitVal b).map fun d => n * 10 + d
  | [], acc => by
    simp only [List.nil_append, Lib.decFrom, Option.bind_some]
    cases Lib.digitVal b <;> rfl
  | a :: l, acc => by
    simp only [List.cons_append, Lib.decFrom]
    cases Lib.digitVal a with
    | none => rfl
    | some d => exact decFrom_snoc b l _
theorem decFrom_digits (u : Nat) : Lib.decFrom 0 (Lib.decDigits u) = some u := by
  induction u using Nat.strongRecOn with
  | ind u ih =>
    have hd := (digit_val ⟨u % 10, Nat.mod_lt _ (by decide)⟩).1
    simp only at hd
    rw [digits_rec]
    by_cases h : u / 10 = 0
    · rw [if_pos h, ← List.nil_append [_], decFrom_snoc, hd]
      simp [Lib.decFrom]
      omega
    · rw [if_neg h, decFrom_snoc, ih (u / 10) (by omega), hd]
      simp
      omega
theorem digits_all (u : Nat) : ∀ b ∈ Lib.decDigits u, 48 ≤ b.toNat ∧ b.toNat ≤ 57 := by
  induction u using Nat.strongRecOn with
  | ind u ih =>
    have hd := (digit_val ⟨u % 10, Nat.mod_lt _ (by decide)⟩).2
    rw [digits_rec]
    intro b hb
    by_cases h : u / 10 = 0
    · rw [if_pos h, List.mem_singleton] at hb
      subst hb
      exact hd
    · rw [if_neg h, List.mem_append, List.mem_singleton] at hb
      rcases hb with hb | rfl
      · exact ih (u / 10) (by omega) b hb
      · exact hd
theorem digits_ne (u : Nat) : Lib.decDigits u ≠ [] := by
  rw [digits_rec]
  split <;> simp
theorem decNat_digits (u : Nat) : Lib.decNat (Lib.decDigits u) = some u := by
  unfold Lib.decNat
  have h := digits_ne u
  rw [if_neg (by cases hd : Lib.decDigits u <;> simp_all)]
  exact decFrom_digits u
theorem atoi_itoa (n : Int) : Lib.atoi (Lib.itoa n) = some n := by
  unfold Lib.itoa
  by_cases h : n < 0
  · rw [if_pos h]
    rw [Lib.atoi, if_pos (by decide), decNat_digits]
    simp
    omega
  · rw [if_neg h]
    have h1 := digits_all n.toNat
    have h2 := decNat_digits n.toNat
    have h3 := digits_ne n.toNat
    cases hd : Lib.decDigits n.toNat with
    | nil => exact absurd hd h3
    | cons b r =>
      rw [hd] at h1 h2
      have hb := h1 b (List.mem_cons_self ..)
      rw [Lib.atoi]
      have e1 : ¬ (b == 45) = true := by
        intro e
        rw [beq_iff_eq.1 e] at hb
        exact absurd hb.1 (by decide)
      have e2 : ¬ (b == 43) = true := by
        intro e
        rw [beq_iff_eq.1 e] at hb
        exact absurd hb.1 (by decide)
      rw [if_neg e1, if_neg e2, h2]
      simp
      omega
/-- A text as a number: of at most nine bytes, as Dec has it. -/
def numV (s : ByteArray) : Option Int := if s.size ≤ 9 then (match Lib.atoi s.data.toList with | some n => if decS n = s then some n else none | none => none) else none
theorem numV_iff {s : ByteArray} {n : Int} : numV s = some n ↔ s.size ≤ 9 ∧ decS n = s := by
  unfold numV
  constructor
  · intro h
    split at h
    · rename_i hl
      split at h
      · split at h
        · rename_i e
          injection h with h
          subst h
          exact ⟨hl, e⟩
        · cases h
      · cases h
    · cases h
  · rintro ⟨hl, rfl⟩
    rw [if_pos hl, show (decS n).data.toList = Lib.itoa n from rfl, atoi_itoa]
    exact if_pos rfl
theorem numV_none {s : ByteArray} : numV s = none ↔ ∀ n, ¬ (s.size ≤ 9 ∧ decS n = s) := by
  constructor
  · intro h n hn
    rw [numV_iff.2 hn] at h
    cases h
  · intro h
    cases hn : numV s with
    | none => rfl
    | some n => exact absurd (numV_iff.1 hn) (h n)
theorem numV_atoi {s : ByteArray} {n : Int} (h : Lib.atoi s.data.toList = some n) (hl : s.size ≤ 9) : numV s = if decS n = s then some n else none := by
  unfold numV
  rw [if_pos hl, h]
theorem numV_bad {s : ByteArray} (h : Lib.atoi s.data.toList = none) : numV s = none := by
  unfold numV
  rw [h]
  split <;> rfl
theorem numV_long {s : ByteArray} (h : 9 < s.size) : numV s = none := if_neg (by omega)
theorem decS_inj {a b : Int} (h : decS a = decS b) : a = b := by
  have h1 := atoi_itoa a
  rw [bs_inj.1 h, atoi_itoa] at h1
  injection h1 with h1
  exact h1.symm
theorem decS_len {n : Int} (h0 : -9223372036854775808 ≤ n) (h1 : n ≤ 9223372036854775807) : (decS n).size ≤ 21 := by
  unfold decS
  rw [bs_size]
  exact Lib.itoa_length_le n h0 h1
end Go.Proofs.WK
namespace Go.Proofs.WK
open Go (Lib.indexB)
/-- A text of one byte. -/
def one (c : UInt8) : ByteArray := ⟨#[c]⟩
theorem one_size (c : UInt8) : (one c).size = 1 := rfl
/-- A text, cut at each byte c. -/
def parts (c : UInt8) (s : ByteArray) : List ByteArray := Lib.splitB (one c) 0 (Lib.countB s (one c)) s
theorem parts_hit {c : UInt8} {s : ByteArray} {i : Nat} (h : Lib.indexB s (one c) = i) : parts c s = s.extract 0 i :: parts c (s.extract (i + 1) s.size) := by
  unfold parts
  rw [Lib.countB_hit s (one c) i (by rw [one_size]; exact Nat.le_refl _) h, Nat.add_comm 1, Lib.splitB_hit _ _ _ _ _ h]
  rfl
theorem parts_miss {c : UInt8} {s : ByteArray} (h : Lib.indexB s (one c) = -1) : parts c s = [s] := Lib.splitB_miss _ _ _ _ h
theorem parts_len (c : UInt8) (s : ByteArray) : (parts c s).length = Lib.countB s (one c) + 1 := Lib.splitB_all (one c) (by rw [one_size]; exact Nat.le_refl _) 0 _ s rfl
/-- A list's text: an empty one has nothing. -/
def items (s : ByteArray) : List ByteArray := if s.size = 0 then [] else parts 44 s
/-- A word 'key=value' as a field. -/
def fldV (s : ByteArray) : Option Fld := if Lib.indexB s (one 61) = -1 then none else some ⟨s.extract 0 (Lib.indexB s (one 61)).toNat, s.extract ((Lib.indexB s (one 61)).toNat + 1) s.size⟩
theorem fldV_hit {s : ByteArray} {i : Nat} (h : Lib.indexB s (one 61) = i) : fldV s = some ⟨s.extract 0 i, s.extract (i + 1) s.size⟩ := by
  unfold fldV
  rw [h, if_neg (by omega)]
  rfl
theorem fldV_miss {s : ByteArray} (h : Lib.indexB s (one 61) = -1) : fldV s = none := if_pos h
def fldsV : List ByteArray → Option (List Fld)
  | [] => some []
  | s :: l => match fldV s, fldsV l with
    | some f, some fs => some (f :: fs)
    | _, _ => none
theorem fldsV_snoc {s : ByteArray} : ∀ {l : List ByteArray} {fs : List Fld}, fldsV l = some fs → fldsV (l ++ [s]) = (fldV s).map fun f => fs ++ [f]
  | [], fs, h => by
    injection h with h
    subst h
    simp only [List.nil_append, fldsV]
    cases fldV s <;> rfl
  | a :: l, fs, h => by
    unfold fldsV at h
    cases ha : fldV a with
    | none => simp [ha] at h
    | some f =>
      cases hl : fldsV l with
      | none => simp [ha, hl] at h
      | some gs =>
        simp only [ha, hl, Option.some.injEq] at h
        subst h
        simp only [List.cons_append, fldsV, ha, fldsV_snoc hl]
        cases fldV s <;> rfl
theorem fldsV_bad : ∀ {l : List ByteArray} {s : ByteArray}, s ∈ l → fldV s = none → fldsV l = none
  | a :: l, s, h, hs => by
    unfold fldsV
    rcases List.mem_cons.1 h with rfl | h
    · rw [hs]
    · rw [fldsV_bad h hs]
      cases fldV a <;> rfl
theorem fldsV_len : ∀ {l : List ByteArray} {fs : List Fld}, fldsV l = some fs → fs.length = l.length
  | [], fs, h => by injection h with h; rw [← h]; rfl
  | a :: l, fs, h => by
    unfold fldsV at h
    cases ha : fldV a with
    | none => simp [ha] at h
    | some f =>
      cases hl : fldsV l with
      | none => simp [ha, hl] at h
      | some gs =>
        simp only [ha, hl, Option.some.injEq] at h
        subst h
        simp [fldsV_len hl]
/-- A record as a text says it, ahead of its check: none where the text has not the form. -/
def rawV (s : ByteArray) : Option Rec :=
  match parts 59 s with
  | [a, b, c, d] => match numV b, fldsV (items c) with
    | some n, some fs => some ⟨a, n, fs, items d⟩
    | _, _ => none
  | _ => none
def readE (s : ByteArray) : Int := match rawV s with
  | some r => recErr r
  | none => 10
def readR (s : ByteArray) : Rec := match rawV s with
  | some r => if recErr r = 0 then r else noRec
  | none => noRec
/-! ### a record's text -/
def commas (l : List (List UInt8)) : List UInt8 := Lib.join l [44]
def fldL (f : Fld) : List UInt8 := f.key.data.toList ++ 61 :: f.val.data.toList
def textL (r : Rec) : List UInt8 := r.id.data.toList ++ 59 :: (Lib.itoa r.cats ++ 59 :: (commas (r.fields.map fldL) ++ 59 :: commas (r.refs.map (·.data.toList))))
def textV (r : Rec) : ByteArray := bs (textL r)
theorem commas_snoc (l : List (List UInt8)) (x : List UInt8) : commas (l ++ [x]) = if l = [] then x else commas l ++ 44 :: x := by
  unfold commas
  cases l with
  | nil => exact Lib.join_one x _
  | cons a l =>
    rw [List.cons_append, Lib.join_cons, Lib.join_cons, if_neg (by simp)]
    unfold Lib.joinTail
    rw [List.map_append, List.flatten_append]
    simp
end Go.Proofs.WK
