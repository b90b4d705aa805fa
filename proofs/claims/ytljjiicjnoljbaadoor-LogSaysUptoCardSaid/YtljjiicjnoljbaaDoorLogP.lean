/-
  An operation as text (P44 to P46), as plain data. No walk.
-/
import Derived.Test.YtljjiicjnoljbaaDoorRecW
import Derived.Test.YtljjiicjnoljbaaDoorSum
import Derived.Test.YtljjiicjnoljbaaDoorRule
import Derived.Test.YtljjiicjnoljbaaDoorOpv
namespace Go.Proofs.WK
/-- P44. -/
def logErr (o : OpV) : Int :=
  if o.kind = 1 then rulesErr o.rules
  else if o.kind = 2 then (if whoOk o.who = true then recErr o.r else 1)
  else if o.kind = 3 then (if whoOk o.who = true ∧ 0 ≤ o.r.cats ∧ o.r.cats ≤ 255 then (if idOk o.id = true then 0 else 3) else 1)
  else 3
def numsL (l : List Int) : List UInt8 := (l.map fun n => 32 :: Lib.itoa n).flatten
theorem numsL_snoc (l : List Int) (n : Int) : numsL (l ++ [n]) = numsL l ++ 32 :: Lib.itoa n := by simp [numsL]
def whoN (o : OpV) : List Int := [o.who.role, o.who.why, o.who.time]
def rulN (r : Rul) : List Int := [r.role, r.why, r.frm, r.til, r.cats]
def rulL (r : Rul) : List UInt8 := numsL (rulN r) ++ (if r.allow = true then [32, 121, 101, 115] else [32, 110, 111])
def plainL (o : OpV) : List UInt8 :=
  if o.kind = 2 then [112, 117, 116] ++ numsL (whoN o) ++ 32 :: (recS o.r).data.toList
  else if o.kind = 3 then [99, 117, 116] ++ numsL (whoN o) ++ 32 :: (o.id.data.toList ++ numsL [o.r.cats])
  else [114, 117, 108, 101, 115] ++ (o.rules.map rulL).flatten
def plainS (o : OpV) : ByteArray := bs (plainL o)
/-- P46. -/
def lineS (o : OpV) : ByteArray := plainS o ++ ⟨#[32, 61]⟩ ++ decS (sumV (plainS o)) ++ ⟨#[10]⟩
/-! ### its words -/
def yesS (b : Bool) : ByteArray := if b = true then ⟨#[121, 101, 115]⟩ else ⟨#[110, 111]⟩
def rulW (r : Rul) : List ByteArray := (rulN r).map decS ++ [yesS r.allow]
def wordsW (o : OpV) : List ByteArray :=
  if o.kind = 2 then ⟨#[112, 117, 116]⟩ :: (whoN o).map decS ++ [textV o.r]
  else if o.kind = 3 then ⟨#[99, 117, 116]⟩ :: (whoN o).map decS ++ [o.id, decS o.r.cats]
  else ⟨#[114, 117, 108, 101, 115]⟩ :: (o.rules.map rulW).flatten
theorem tail_app (a b : List (List UInt8)) : Lib.joinTail [32] (a ++ b) = Lib.joinTail [32] a ++ Lib.joinTail [32] b := by simp [Lib.joinTail]
theorem tail_nums (l : List Int) : Lib.joinTail [32] ((l.map decS).map (·.data.toList)) = numsL l := by
  unfold Lib.joinTail numsL
  rw [List.map_map, List.map_map]
  rfl
theorem tail_one (s : List UInt8) : Lib.joinTail [32] [s] = 32 :: s := by simp [Lib.joinTail]
theorem tail_rules : ∀ l : List Rul, Lib.joinTail [32] (((l.map rulW).flatten).map (·.data.toList)) = (l.map rulL).flatten
  | [] => rfl
  | r :: l => by
    rw [List.map_cons, List.map_cons, List.flatten_cons, List.flatten_cons, List.map_append, tail_app, tail_rules l]
    congr 1
    unfold rulW rulL
    rw [List.map_append, tail_app, tail_nums, List.map_cons, List.map_nil, tail_one]
    congr 1
    unfold yesS
    cases r.allow <;> rfl
theorem words_plain {o : OpV} (h : logErr o = 0) : joinV (wordsW o) ⟨#[32]⟩ = plainS o := by
  unfold joinV plainS
  congr 1
  unfold wordsW plainL
  unfold logErr at h
  by_cases h2 : o.kind = 2
  · rw [if_neg (by omega), if_pos h2] at h
    rw [if_pos h2, if_pos h2]
    have hr : recErr o.r = 0 := by
      split at h
      · exact h
      · omega
    rw [show recS o.r = textV o.r from if_pos hr]
    rw [List.cons_append, List.map_cons, Lib.join_cons, List.map_append, show (⟨#[32]⟩ : ByteArray).data.toList = [32] from rfl, tail_app, tail_nums, List.map_cons, List.map_nil, tail_one]
    simp
  · by_cases h3 : o.kind = 3
    · rw [if_neg h2, if_neg h2, if_pos h3, if_pos h3]
      rw [List.cons_append, List.map_cons, Lib.join_cons, List.map_append, show (⟨#[32]⟩ : ByteArray).data.toList = [32] from rfl, tail_app, tail_nums]
      simp [Lib.joinTail, numsL, decS, bs]
    · rw [if_neg h2, if_neg h2, if_neg h3, if_neg h3]
      rw [List.map_cons, Lib.join_cons, show (⟨#[32]⟩ : ByteArray).data.toList = [32] from rfl, tail_rules]
/-! ### how long -/
theorem nums_len : ∀ l : List Int, (∀ n ∈ l, -9223372036854775808 ≤ n ∧ n ≤ 9223372036854775807) → (numsL l).length ≤ 22 * l.length
  | [], _ => Nat.zero_le _
  | n :: l, h => by
    have h1 := nums_len l fun m hm => h m (List.mem_cons_of_mem _ hm)
    obtain ⟨a, b⟩ := h n (List.mem_cons_self ..)
    have h2 := Lib.itoa_length_le n a b
    unfold numsL at h1 ⊢
    simp only [List.map_cons, List.flatten_cons, List.length_append, List.length_cons]
    omega
end Go.Proofs.WK
