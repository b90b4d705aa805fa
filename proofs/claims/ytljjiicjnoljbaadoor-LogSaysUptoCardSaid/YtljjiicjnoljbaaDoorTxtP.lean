/-
  Texts as plain data: lists with a byte between, records as texts (P19, P20). No walk.
-/
import Derived.Test.YtljjiicjnoljbaaDoorDat
import Derived.Test.YtljjiicjnoljbaaDoorNumT
import Derived.Lib.SplitLaws
import Derived.Lib.Join
namespace Go.Proofs.WK
open Go (Lib.indexB)
/-- A text of one byte. -/
def one (c : UInt8) : ByteArray := ⟨#[c]⟩
theorem one_size (c : UInt8) : (one c).size = 1 := rfl
/-- A text, cut at each byte c. -/
def parts (c : UInt8) (s : ByteArray) : List ByteArray := Lib.splitB (one c) 0 (Lib.countB s (one c)) s
theorem parts_hit {c : UInt8} {s : ByteArray} {i : Nat} (h : Lib.indexB s (one c) = i) : parts c s = s.extract 0 i :: parts c (s.extract (i + 1) s.size) := by
  unfold parts
  rw [Lib.countB_hit s (one c) i (by rw [one_size]; exact Nat.le_refl _) h, Nat.add_comm 1, Lib.splitB_hit _ _ _ _ _ h]
  rfl
theorem parts_miss {c : UInt8} {s : ByteArray} (h : Lib.indexB s (one c) = -1) : parts c s = [s] := Lib.splitB_miss _ _ _ _ h
theorem parts_len (c : UInt8) (s : ByteArray) : (parts c s).length = Lib.countB s (one c) + 1 := Lib.splitB_all (one c) (by rw [one_size]; exact Nat.le_refl _) 0 _ s rfl
/-- A list's text: an empty one has nothing. -/
def items (s : ByteArray) : List ByteArray := if s.size = 0 then [] else parts 44 s
/-- A word 'key=value' as a field. -/
def fldV (s : ByteArray) : Option Fld := if Lib.indexB s (one 61) = -1 then none else some ⟨s.extract 0 (Lib.indexB s (one 61)).toNat, s.extract ((Lib.indexB s (one 61)).toNat + 1) s.size⟩
theorem fldV_hit {s : ByteArray} {i : Nat} (h : Lib.indexB s (one 61) = i) : fldV s = some ⟨s.extract 0 i, s.extract (i + 1) s.size⟩ := by
  unfold fldV
  rw [h, if_neg (by omega)]
  rfl
theorem fldV_miss {s : ByteArray} (h : Lib.indexB s (one 61) = -1) : fldV s = none := if_pos h
def fldsV : List ByteArray → Option (List Fld)
  | [] => some []
  | s :: l => match fldV s, fldsV l with
    | some f, some fs => some (f :: fs)
    | _, _ => none
theorem fldsV_snoc {s : ByteArray} : ∀ {l : List ByteArray} {fs : List Fld}, fldsV l = some fs → fldsV (l ++ [s]) = (fldV s).map fun f => fs ++ [f]
  | [], fs, h => by
    injection h with h
    subst h
    simp only [List.nil_append, fldsV]
    cases fldV s <;> rfl
  | a :: l, fs, h => by
    unfold fldsV at h
    cases ha : fldV a with
    | none => simp [ha] at h
    | some f =>
      cases hl : fldsV l with
      | none => simp [ha, hl] at h
      | some gs =>
        simp only [ha, hl, Option.some.injEq] at h
        subst h
        simp only [List.cons_append, fldsV, ha, fldsV_snoc hl]
        cases fldV s <;> rfl
theorem fldsV_bad : ∀ {l : List ByteArray} {s : ByteArray}, s ∈ l → fldV s = none → fldsV l = none
  | a :: l, s, h, hs => by
    unfold fldsV
    rcases List.mem_cons.1 h with rfl | h
    · rw [hs]
    · rw [fldsV_bad h hs]
      cases fldV a <;> rfl
theorem fldsV_len : ∀ {l : List ByteArray} {fs : List Fld}, fldsV l = some fs → fs.length = l.length
  | [], fs, h => by injection h with h; rw [← h]; rfl
  | a :: l, fs, h => by
    unfold fldsV at h
    cases ha : fldV a with
    | none => simp [ha] at h
    | some f =>
      cases hl : fldsV l with
      | none => simp [ha, hl] at h
      | some gs =>
        simp only [ha, hl, Option.some.injEq] at h
        subst h
        simp [fldsV_len hl]
/-- A record as a text says it, ahead of its check: none where the text has not the form. -/
def rawV (s : ByteArray) : Option Rec :=
  match parts 59 s with
  | [a, b, c, d] => match numV b, fldsV (items c) with
    | some n, some fs => some ⟨a, n, fs, items d⟩
    | _, _ => none
  | _ => none
def readE (s : ByteArray) : Int := match rawV s with
  | some r => recErr r
  | none => 10
def readR (s : ByteArray) : Rec := match rawV s with
  | some r => if recErr r = 0 then r else noRec
  | none => noRec
/-! ### a record's text -/
def commas (l : List (List UInt8)) : List UInt8 := Lib.join l [44]
def fldL (f : Fld) : List UInt8 := f.key.data.toList ++ 61 :: f.val.data.toList
def textL (r : Rec) : List UInt8 := r.id.data.toList ++ 59 :: (Lib.itoa r.cats ++ 59 :: (commas (r.fields.map fldL) ++ 59 :: commas (r.refs.map (·.data.toList))))
def textV (r : Rec) : ByteArray := bs (textL r)
theorem commas_snoc (l : List (List UInt8)) (x : List UInt8) : commas (l ++ [x]) = if l = [] then x else commas l ++ 44 :: x := by
  unfold commas
  cases l with
  | nil => exact Lib.join_one x _
  | cons a l =>
    rw [List.cons_append, Lib.join_cons, Lib.join_cons, if_neg (by simp)]
    unfold Lib.joinTail
    rw [List.map_append, List.flatten_append]
    simp
end Go.Proofs.WK
