/-
  An operation as text (P44 to P46), as plain data. No walk.
  A line of a log as plain data (P47): what it says, how many bytes it has, what is wrong. No walk.
  A log's lines as plain data: what the walks of log.Read, log.All and wyref.Entry need. No walk.
-/
import Derived.Lib.LastIndexLaws
import Derived.Test.YtljjiicjnoljbaaGreatDoorRecW
import Derived.Test.YtljjiicjnoljbaaGreatDoorSum
import Derived.Test.YtljjiicjnoljbaaGreatDoorRol0
import Derived.Test.YtljjiicjnoljbaaGreatDoorOpv
namespace Go.Proofs.WK
/-- P44. -/
def logErr (o : OpV) : Int :=
  if o.kind = 1 then rulesErr o.rules
  else if o.kind = 2 then (if whoOk o.who = true then recErr o.r else 1)
  else if o.kind = 3 then (if whoOk o.who = true ∧ 0 ≤ o.r.cats ∧ o.r.cats ≤ 255 then (if idOk o.id = true then 0 else 3) else 1)
  else 3
def numsL (l : List Int) : List UInt8 := (l.map fun n => 32 :: Lib.itoa n).flatten
theorem numsL_snoc (l : List Int) (n : Int) : numsL (l ++ [n]) = numsL l ++ 32 :: Lib.itoa n := by simp [numsL]
def whoN (o : OpV) : List Int := [o.who.role, o.who.why, o.who.time]
def rulN (r : Rul) : List Int := [r.role, r.why, r.frm, r.til, r.cats]
def rulL (r : Rul) : List UInt8 := numsL (rulN r) ++ (if r.allow = true then [32, 121, 101, 115] else [32, 110, 111])
def plainL (o : OpV) : List UInt8 :=
  if o.kind = 2 then [112, 117, 116] ++ numsL (whoN o) ++ 32 :: (recS o.r).data.toList
  else if o.kind = 3 then [99, 117, 116] ++ numsL (whoN o) ++ 32 :: (o.id.data.toList ++ numsL [o.r.cats])
  else [114, 117, 108, 101, 115] ++ (o.rules.map rulL).flatten
def plainS (o : OpV) : ByteArray := bs (plainL o)
/-- P46. -/
def lineS (o : OpV) : ByteArray := plainS o ++ ⟨#[32, 61]⟩ ++ decS (sumV (plainS o)) ++ ⟨#[10]⟩
/-! ### its words -/
def yesS (b : Bool) : ByteArray := if b = true then ⟨#[121, 101, 115]⟩ else ⟨#[110, 111]⟩
def rulW (r : Rul) : List ByteArray := (rulN r).map decS ++ [yesS r.allow]
def wordsW (o : OpV) : List ByteArray :=
  if o.kind = 2 then ⟨#[112, 117, 116]⟩ :: (whoN o).map decS ++ [textV o.r]
  else if o.kind = 3 then ⟨#[99, 117, 116]⟩ :: (whoN o).map decS ++ [o.id, decS o.r.cats]
  else ⟨#[114, 117, 108, 101, 115]⟩ :: (o.rules.map rulW).flatten
theorem tail_app (a b : List (List UInt8)) : Lib.joinTail [32] (a ++ b) = Lib.joinTail [32] a ++ Lib.joinTail [32] b := by simp [Lib.joinTail]
theorem tail_nums (l : List Int) : Lib.joinTail [32] ((l.map decS).map (·.data.toList)) = numsL l := by
  unfold Lib.joinTail numsL
  rw [List.map_map, List.map_map]
  rfl
theorem tail_one (s : List UInt8) : Lib.joinTail [32] [s] = 32 :: s := by simp [Lib.joinTail]
theorem tail_rules : ∀ l : List Rul, Lib.joinTail [32] (((l.map rulW).flatten).map (·.data.toList)) = (l.map rulL).flatten
  | [] => rfl
  | r :: l => by
    rw [List.map_cons, List.map_cons, List.flatten_cons, List.flatten_cons, List.map_append, tail_app, tail_rules l]
    congr 1
    unfold rulW rulL
    rw [List.map_append, tail_app, tail_nums, List.map_cons, List.map_nil, tail_one]
    congr 1
    unfold yesS
    cases r.allow <;> rfl
theorem words_plain {o : OpV} (h : logErr o = 0) : joinV (wordsW o) ⟨#[32]⟩ = plainS o := by
  unfold joinV plainS
  congr 1
  unfold wordsW plainL
  unfold logErr at h
  by_cases h2 : o.kind = 2
  · rw [if_neg (by omega), if_pos h2] at h
    rw [if_pos h2, if_pos h2]
    have hr : recErr o.r = 0 := by
      split at h
      · exact h
      · omega
    rw [show recS o.r = textV o.r from if_pos hr]
    rw [List.cons_append, List.map_cons, Lib.join_cons, List.map_append, show (⟨#[32]⟩ : ByteArray).data.toList = [32] from rfl, tail_app, tail_nums, List.map_cons, List.map_nil, tail_one]
    simp
  · by_cases h3 : o.kind = 3
    · rw [if_neg h2, if_neg h2, if_pos h3, if_pos h3]
      rw [List.cons_append, List.map_cons, Lib.join_cons, List.map_append, show (⟨#[32]⟩ : ByteArray).data.toList = [32] from rfl, tail_app, tail_nums]
      simp [Lib.joinTail, numsL, decS, bs]
    · rw [if_neg h2, if_neg h2, if_neg h3, if_neg h3]
      rw [List.map_cons, Lib.join_cons, show (⟨#[32]⟩ : ByteArray).data.toList = [32] from rfl, tail_rules]
/-! ### how long -/
theorem nums_len : ∀ l : List Int, (∀ n ∈ l, -9223372036854775808 ≤ n ∧ n ≤ 9223372036854775807) → (numsL l).length ≤ 22 * l.length
  | [], _ => Nat.zero_le _
  | n :: l, h => by
    have h1 := nums_len l fun m hm => h m (List.mem_cons_of_mem _ hm)
    obtain ⟨a, b⟩ := h n (List.mem_cons_self ..)
    have h2 := Lib.itoa_length_le n a b
    unfold numsL at h1 ⊢
    simp only [List.map_cons, List.flatten_cons, List.length_append, List.length_cons]
    omega
end Go.Proofs.WK
namespace Go.Proofs.WK
/-- Where " =" stands last; -1: nowhere. -/
def lastEq (s : ByteArray) : Int := Lib.lastIndex s.data.toList [32, 61]
def who0 : Who := ⟨0, 0, 0⟩
def fld0 : Fld := ⟨⟨#[]⟩, ⟨#[]⟩⟩
def opNo : OpV := ⟨0, who0, [], noRec, ⟨#[]⟩, fld0⟩
def sRules : ByteArray := ⟨#[114, 117, 108, 101, 115]⟩
def sPut : ByteArray := ⟨#[112, 117, 116]⟩
def sCut : ByteArray := ⟨#[99, 117, 116]⟩
def yesX (s : ByteArray) : Option Bool := if s = ⟨#[121, 101, 115]⟩ then some true else if s = ⟨#[110, 111]⟩ then some false else none
/-- Six words are a rule. -/
def rulX (a b c d e f : ByteArray) : Option Rul := match numV a, numV b, numV c, numV d, numV e, yesX f with
  | some x1, some x2, some x3, some x4, some x5, some y => some ⟨x1, x2, x3, x4, x5, y⟩
  | _, _, _, _, _, _ => none
def rulsX : List ByteArray → Option (List Rul)
  | [] => some []
  | a :: b :: c :: d :: e :: f :: l => match rulX a b c d e f, rulsX l with
    | some r, some rs => some (r :: rs)
    | _, _ => none
  | _ => none
def whoV3 (a b c : ByteArray) : Option Who := match numV a, numV b, numV c with
  | some x, some y, some z => some ⟨x, y, z⟩
  | _, _, _ => none
/-- What words say. -/
def saidX : List ByteArray → Option OpV
  | [] => none
  | h :: t =>
    if h = sRules then (rulsX t).map fun rs => { opNo with kind := 1, rules := rs }
    else if h = sPut then (match t with
      | [a, b, c, d] => (match whoV3 a b c with
        | some q => if readE d = 0 then some { opNo with kind := 2, who := q, r := readR d } else none
        | none => none)
      | _ => none)
    else if h = sCut then (match t with
      | [a, b, c, d, e] => (match whoV3 a b c, numV e with
        | some q, some n => some { opNo with kind := 3, who := q, r := { noRec with cats := n }, id := d }
        | _, _ => none)
      | _ => none)
    else none
/-- What stands ahead of the sum, and the sum. -/
def bodyE (line : ByteArray) : OpV × Int :=
  if lastEq line < 0 then (opNo, 10)
  else match numV (line.extract ((lastEq line).toNat + 2) line.size) with
    | none => (opNo, 10)
    | some n =>
      if ¬ (0 ≤ n ∧ n ≤ 65520) then (opNo, 10)
      else if sumV (line.extract 0 (lastEq line).toNat) ≠ n then (opNo, 8)
      else match saidX (parts 32 (line.extract 0 (lastEq line).toNat)) with
        | none => (opNo, 10)
        | some o => if logErr o ≠ 0 then (opNo, logErr o) else (o, 0)
/-- P47: the operation, how many bytes, what is wrong. -/
def entO (s : ByteArray) : OpV := if Lib.indexB s (one 10) = -1 then opNo else (bodyE (s.extract 0 (Lib.indexB s (one 10)).toNat)).1
def entE (s : ByteArray) : Int := if Lib.indexB s (one 10) = -1 then 7 else (bodyE (s.extract 0 (Lib.indexB s (one 10)).toNat)).2
def entN (s : ByteArray) : Int := if entE s = 0 then Lib.indexB s (one 10) + 1 else 0
/-- P48: all lines from a place on, with fuel. -/
def allN : Nat → ByteArray → Nat → List OpV × Int × Int
  | 0, _, u => ([], u, 0)
  | f + 1, s, u =>
    if entE (s.extract u s.size) = 7 then ([], u, 0)
    else if entE (s.extract u s.size) ≠ 0 then ([], 0, entE (s.extract u s.size))
    else (let r := allN f s (u + (entN (s.extract u s.size)).toNat); if r.2.2 ≠ 0 then r else (entO (s.extract u s.size) :: r.1, r.2))
end Go.Proofs.WK
namespace Go.Proofs.WK
/-- Where " =" stands last among the places below k. -/
def lastK (s : ByteArray) (k : Nat) : Int := Lib.lastOcc s.data.toList [32, 61] k
def spEq : ByteArray := ⟨#[32, 61]⟩
theorem lastEq_eq (s : ByteArray) : lastEq s = lastK s (s.size - 1) := by
  unfold lastEq Lib.lastIndex lastK
  have e : s.data.toList.length = s.size := Array.length_toList
  rw [e]
  show (if 2 ≤ s.size then Lib.lastOcc s.data.toList [32, 61] (s.size - 2 + 1) else -1) = Lib.lastOcc s.data.toList [32, 61] (s.size - 1)
  by_cases h : 2 ≤ s.size
  · rw [if_pos h, show s.size - 2 + 1 = s.size - 1 by omega]
  · rw [if_neg h, show s.size - 1 = 0 by omega]; rfl
theorem extract_data (s : ByteArray) (i j : Nat) : (s.extract i j).data.toList = (s.data.toList.drop i).take (j - i) := by
  rw [ByteArray.data_extract, Array.toList_extract]
theorem occ_eq {s : ByteArray} {i : Nat} (hi : i + 2 ≤ s.size) : Lib.occAt s.data.toList [32, 61] i = decide (s.extract i (i + 2) = spEq) := by
  have e : s.data.toList.length = s.size := Array.length_toList
  rw [Lib.occAt_iff_take _ _ _ (by rw [e]; exact hi)]
  have h2 : (s.extract i (i + 2)).data.toList = (s.data.toList.drop i).take 2 := by rw [extract_data, show i + 2 - i = 2 by omega]
  show ((s.data.toList.drop i).take 2 == [32, 61]) = _
  rw [← h2]
  rw [Bool.eq_iff_iff, beq_iff_eq, decide_eq_true_eq]
  constructor
  · intro h
    rw [← data_bs (s.extract i (i + 2)), h]
    rfl
  · intro h
    rw [h]
    rfl
theorem lastK_step {s : ByteArray} {k : Nat} (hk : k + 2 ≤ s.size) : lastK s (k + 1) = if s.extract k (k + 2) = spEq then (k : Int) else lastK s k := by
  unfold lastK
  rw [Lib.lastOcc, occ_eq hk]
  by_cases h : s.extract k (k + 2) = spEq
  · rw [if_pos h, decide_eq_true h]; rfl
  · rw [if_neg h, decide_eq_false h]; rfl
theorem lastK_lt (s : ByteArray) : ∀ k : Nat, -1 ≤ lastK s k ∧ lastK s k < k
  | 0 => by unfold lastK Lib.lastOcc; omega
  | k + 1 => by
    have ih := lastK_lt s k
    unfold lastK at ih ⊢
    rw [Lib.lastOcc]
    split <;> omega
theorem lastEq_lt (s : ByteArray) : -1 ≤ lastEq s ∧ lastEq s < (s.size - 1 : Nat) := by
  rw [lastEq_eq]
  exact lastK_lt s _
/-- Where it stands, two bytes are there. -/
theorem lastEq_two {s : ByteArray} (h : 0 ≤ lastEq s) : (lastEq s).toNat + 2 ≤ s.size := by
  have := lastEq_lt s
  omega
/-! ### all lines -/
theorem entN_le (s : ByteArray) : 0 ≤ entN s ∧ entN s ≤ s.size := by
  unfold entN
  split
  · rename_i h
    have h1 : Lib.indexB s (one 10) ≠ -1 := fun e => by
      unfold entE at h
      rw [if_pos e] at h
      cases h
    rcases Lib.indexB_cases s (one 10) with e | ⟨i, e, hi⟩
    · exact absurd e h1
    · rw [e]
      have : i + 1 ≤ s.size := hi
      omega
  · omega
theorem entN_pos {s : ByteArray} (h : entE s = 0) : 1 ≤ entN s := by
  have h1 : Lib.indexB s (one 10) ≠ -1 := fun e => by
    unfold entE at h
    rw [if_pos e] at h
    cases h
  unfold entN
  rw [if_pos h]
  rcases Lib.indexB_cases s (one 10) with e | ⟨i, e, hi⟩
  · exact absurd e h1
  · rw [e]; omega
/-- P48. -/
def linV (s : ByteArray) : List OpV × Int × Int := allN (s.size + 1) s 0
/-- How far it is: the lines so far, the place, what is left to do. -/
def LinAt (s : ByteArray) (out : List OpV) (u f : Nat) : Prop :=
  linV s = if (allN f s u).2.2 ≠ 0 then allN f s u else (out ++ (allN f s u).1, (allN f s u).2)
theorem linAt_start (s : ByteArray) : LinAt s [] 0 (s.size + 1) := by
  unfold LinAt linV
  split
  · rfl
  · rfl
theorem allN_step {s : ByteArray} {u f : Nat} (h : entE (s.extract u s.size) = 0) : allN (f + 1) s u = if (allN f s (u + (entN (s.extract u s.size)).toNat)).2.2 ≠ 0 then allN f s (u + (entN (s.extract u s.size)).toNat) else (entO (s.extract u s.size) :: (allN f s (u + (entN (s.extract u s.size)).toNat)).1, (allN f s (u + (entN (s.extract u s.size)).toNat)).2) := by
  rw [allN, h, if_neg (by decide), if_neg (by decide)]
theorem allN_end {s : ByteArray} {u f : Nat} (h : entE (s.extract u s.size) = 7) : allN f s u = ([], (u : Int), 0) := by
  cases f with
  | zero => rfl
  | succ f => rw [allN, if_pos h]
theorem allN_bad {s : ByteArray} {u f : Nat} (h : entE (s.extract u s.size) ≠ 7) (h0 : entE (s.extract u s.size) ≠ 0) : allN (f + 1) s u = ([], 0, entE (s.extract u s.size)) := by
  rw [allN, if_neg h, if_pos h0]
theorem linAt_step {s : ByteArray} {out : List OpV} {u f : Nat} (h : LinAt s out u (f + 1)) (h0 : entE (s.extract u s.size) = 0) : LinAt s (out ++ [entO (s.extract u s.size)]) (u + (entN (s.extract u s.size)).toNat) f := by
  unfold LinAt at h ⊢
  rw [h, allN_step h0]
  generalize allN f s (u + (entN (s.extract u s.size)).toNat) = r
  by_cases hr : r.2.2 ≠ 0
  · rw [if_pos hr, if_pos hr, if_pos hr]
  · rw [if_neg hr, if_neg hr]
    show (out ++ entO (s.extract u s.size) :: r.1, r.2) = if r.2.2 ≠ 0 then _ else _
    rw [if_neg hr]
    simp
theorem linAt_end {s : ByteArray} {out : List OpV} {u f : Nat} (h : LinAt s out u f) (h0 : entE (s.extract u s.size) = 7) : linV s = (out, (u : Int), 0) := by
  unfold LinAt at h
  rw [h, allN_end h0]
  simp
theorem linAt_bad {s : ByteArray} {out : List OpV} {u f : Nat} (h : LinAt s out u (f + 1)) (h7 : entE (s.extract u s.size) ≠ 7) (h0 : entE (s.extract u s.size) ≠ 0) : linV s = ([], 0, entE (s.extract u s.size)) := by
  unfold LinAt at h
  rw [h, allN_bad h7 h0]
  simp [h0]
theorem entE_empty {s : ByteArray} (h : s.size = 0) : entE s = 7 := by
  unfold entE
  rcases Lib.indexB_cases s (one 10) with e | ⟨i, e, hi⟩
  · rw [if_pos e]
  · have : i + 1 ≤ s.size := hi
    omega
/-! ### numbers, words -/
/-- Words as numbers. -/
def numsX : List ByteArray → Option (List Int)
  | [] => some []
  | a :: l => match numV a, numsX l with
    | some n, some ns => some (n :: ns)
    | _, _ => none
theorem numsX_snoc {s : ByteArray} : ∀ {l : List ByteArray} {ns : List Int}, numsX l = some ns → numsX (l ++ [s]) = (numV s).map fun n => ns ++ [n]
  | [], ns, h => by
    injection h with h
    subst h
    simp only [List.nil_append, numsX]
    cases numV s <;> rfl
  | a :: l, ns, h => by
    unfold numsX at h
    cases ha : numV a with
    | none => simp [ha] at h
    | some f =>
      cases hl : numsX l with
      | none => simp [ha, hl] at h
      | some gs =>
        simp only [ha, hl, Option.some.injEq] at h
        subst h
        simp only [List.cons_append, numsX, ha, numsX_snoc hl]
        cases numV s <;> rfl
theorem numsX_bad : ∀ {l : List ByteArray} {s : ByteArray}, s ∈ l → numV s = none → numsX l = none
  | a :: l, s, h, hs => by
    unfold numsX
    rcases List.mem_cons.1 h with rfl | h
    · rw [hs]
    · rw [numsX_bad h hs]
      cases numV a <;> rfl
theorem numsX_len : ∀ {l : List ByteArray} {ns : List Int}, numsX l = some ns → ns.length = l.length
  | [], ns, h => by injection h with h; rw [← h]; rfl
  | a :: l, ns, h => by
    unfold numsX at h
    cases ha : numV a with
    | none => simp [ha] at h
    | some f =>
      cases hl : numsX l with
      | none => simp [ha, hl] at h
      | some gs =>
        simp only [ha, hl, Option.some.injEq] at h
        subst h
        simp [numsX_len hl]
end Go.Proofs.WK
