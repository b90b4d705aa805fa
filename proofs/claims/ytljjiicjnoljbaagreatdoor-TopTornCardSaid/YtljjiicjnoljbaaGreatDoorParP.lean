/-
  What log.parse reads, word by word, is what a line's words say. No walk.
-/
import Derived.Test.YtljjiicjnoljbaaGreatDoorLog0
import Derived.Test.YtljjiicjnoljbaaGreatDoorWords
namespace Go.Proofs.WK
theorem isNone_empty : (numV ⟨#[]⟩).isNone = true := by rw [numV_empty]; rfl
def putX : List ByteArray → Option OpV
  | [a, b, c, d] => (match whoV3 a b c with
    | some q => if readE d = 0 then some { opNo with kind := 2, who := q, r := readR d } else none
    | none => none)
  | _ => none
def cutX : List ByteArray → Option OpV
  | [a, b, c, d, e] => (match whoV3 a b c, numV e with
    | some q, some n => some { opNo with kind := 3, who := q, r := { noRec with cats := n }, id := d }
    | _, _ => none)
  | _ => none
theorem saidX_put (t : List ByteArray) : saidX (sPut :: t) = putX t := by
  unfold saidX
  dsimp only
  rw [if_neg (by decide), if_pos rfl]
  rcases t with _ | ⟨a, _ | ⟨b, _ | ⟨c, _ | ⟨d, _ | ⟨e, t⟩⟩⟩⟩⟩ <;> rfl
theorem saidX_cut (t : List ByteArray) : saidX (sCut :: t) = cutX t := by
  unfold saidX
  dsimp only
  rw [if_neg (by decide), if_neg (by decide), if_pos rfl]
  rcases t with _ | ⟨a, _ | ⟨b, _ | ⟨c, _ | ⟨d, _ | ⟨e, _ | ⟨f, t⟩⟩⟩⟩⟩⟩ <;> rfl
theorem saidX_rules (t : List ByteArray) : saidX (sRules :: t) = (rulsX t).map fun rs => { opNo with kind := 1, rules := rs } := by
  unfold saidX
  dsimp only
  rw [if_pos rfl]
/-- "put": three numbers, and a record. -/
theorem said_put (t : List ByteArray) (v1 v2 v3 : Int) (h1 : NumIs (nextS t) v1) (h2 : NumIs (nextS t.tail) v2) (h3 : NumIs (nextS t.tail.tail) v3) (b : Bool)
    (hb : b = ((((numV (nextS t)).isNone || (numV (nextS t.tail)).isNone) || (numV (nextS t.tail.tail)).isNone) || t.tail.tail.tail.isEmpty || decide (readE (nextS t.tail.tail.tail) ≠ 0))) :
    (saidX (sPut :: t)).isSome = (!b && t.tail.tail.tail.tail.isEmpty) ∧ ∀ x, saidX (sPut :: t) = some x → x = { opNo with kind := 2, who := ⟨v1, v2, v3⟩, r := readR (nextS t.tail.tail.tail) } := by
  subst hb
  rw [saidX_put]
  match t with
  | [] => exact ⟨by simp [nextS, isNone_empty, putX], fun x hx => by cases hx⟩
  | [a] => exact ⟨by simp [nextS, isNone_empty, putX], fun x hx => by cases hx⟩
  | [a, b] => exact ⟨by simp [nextS, isNone_empty, putX], fun x hx => by cases hx⟩
  | [a, b, c] => exact ⟨by simp [nextS, putX], fun x hx => by cases hx⟩
  | a :: b :: c :: d :: e :: t => exact ⟨by simp [putX], fun x hx => by cases hx⟩
  | [a, b, c, d] =>
    have h1' : NumIs a v1 := h1
    have h2' : NumIs b v2 := h2
    have h3' : NumIs c v3 := h3
    show (Option.isSome (match whoV3 a b c with | some q => if readE d = 0 then some { opNo with kind := 2, who := q, r := readR d } else none | none => none)) = (!((((numV a).isNone || (numV b).isNone) || (numV c).isNone) || false || decide (readE d ≠ 0)) && true) ∧ ∀ x, (match whoV3 a b c with | some q => if readE d = 0 then some { opNo with kind := 2, who := q, r := readR d } else none | none => none) = some x → x = { opNo with kind := 2, who := ⟨v1, v2, v3⟩, r := readR d }
    unfold whoV3
    cases ha : numV a with
    | none => exact ⟨by simp, fun x hx => by simp at hx⟩
    | some n1 =>
      cases hb : numV b with
      | none => exact ⟨by simp, fun x hx => by simp at hx⟩
      | some n2 =>
        cases hc : numV c with
        | none => exact ⟨by simp, fun x hx => by simp at hx⟩
        | some n3 =>
          rw [h1' n1 ha, h2' n2 hb, h3' n3 hc]
          by_cases hr : readE d = 0
          · refine ⟨by simp [hr], fun x hx => ?_⟩
            simp only [hr, if_true, Option.some.injEq] at hx
            exact hx.symm
          · refine ⟨by simp [hr], fun x hx => ?_⟩
            simp only [hr, if_false] at hx
            cases hx
/-- "cut": three numbers, a name, kinds. -/
theorem said_cut (t : List ByteArray) (v1 v2 v3 v5 : Int) (h1 : NumIs (nextS t) v1) (h2 : NumIs (nextS t.tail) v2) (h3 : NumIs (nextS t.tail.tail) v3) (h5 : NumIs (nextS t.tail.tail.tail.tail) v5) (b : Bool)
    (hb : b = ((((numV (nextS t)).isNone || (numV (nextS t.tail)).isNone) || (numV (nextS t.tail.tail)).isNone) || t.tail.tail.tail.isEmpty || (numV (nextS t.tail.tail.tail.tail)).isNone)) :
    (saidX (sCut :: t)).isSome = (!b && t.tail.tail.tail.tail.tail.isEmpty) ∧ ∀ x, saidX (sCut :: t) = some x → x = { opNo with kind := 3, who := ⟨v1, v2, v3⟩, r := { noRec with cats := v5 }, id := nextS t.tail.tail.tail } := by
  subst hb
  rw [saidX_cut]
  match t with
  | [] => exact ⟨by simp [nextS, isNone_empty, cutX], fun x hx => by cases hx⟩
  | [a] => exact ⟨by simp [nextS, isNone_empty, cutX], fun x hx => by cases hx⟩
  | [a, b] => exact ⟨by simp [nextS, isNone_empty, cutX], fun x hx => by cases hx⟩
  | [a, b, c] => exact ⟨by simp [nextS, cutX], fun x hx => by cases hx⟩
  | [a, b, c, d] => exact ⟨by simp [nextS, isNone_empty, cutX], fun x hx => by cases hx⟩
  | a :: b :: c :: d :: e :: f :: t => exact ⟨by simp [cutX], fun x hx => by cases hx⟩
  | [a, b, c, d, e] =>
    have h1' : NumIs a v1 := h1
    have h2' : NumIs b v2 := h2
    have h3' : NumIs c v3 := h3
    have h5' : NumIs e v5 := h5
    show (Option.isSome (match whoV3 a b c, numV e with | some q, some n => some { opNo with kind := 3, who := q, r := { noRec with cats := n }, id := d } | _, _ => none)) = (!((((numV a).isNone || (numV b).isNone) || (numV c).isNone) || false || (numV e).isNone) && true) ∧ ∀ x, (match whoV3 a b c, numV e with | some q, some n => some { opNo with kind := 3, who := q, r := { noRec with cats := n }, id := d } | _, _ => none) = some x → x = { opNo with kind := 3, who := ⟨v1, v2, v3⟩, r := { noRec with cats := v5 }, id := d }
    unfold whoV3
    cases ha : numV a with
    | none => exact ⟨by simp, fun x hx => by simp at hx⟩
    | some n1 =>
      cases hb : numV b with
      | none => exact ⟨by simp, fun x hx => by simp at hx⟩
      | some n2 =>
        cases hc : numV c with
        | none => exact ⟨by simp, fun x hx => by simp at hx⟩
        | some n3 =>
          rw [h1' n1 ha, h2' n2 hb, h3' n3 hc]
          cases he : numV e with
          | none => exact ⟨by simp, fun x hx => by simp at hx⟩
          | some n5 =>
            rw [h5' n5 he]
            refine ⟨by simp, fun x hx => ?_⟩
            simp only [Option.some.injEq] at hx
            exact hx.symm
/-- Six words are a rule: which, and whether one is wrong. -/
theorem ruls_step (l : List ByteArray) (hl : l ≠ []) (v1 v2 v3 v4 v5 : Int) (h1 : NumIs (nextS l) v1) (h2 : NumIs (nextS l.tail) v2) (h3 : NumIs (nextS l.tail.tail) v3) (h4 : NumIs (nextS l.tail.tail.tail) v4) (h5 : NumIs (nextS l.tail.tail.tail.tail) v5) (b : Bool)
    (hb : b = ((((((numV (nextS l)).isNone || (numV (nextS l.tail)).isNone) || (numV (nextS l.tail.tail)).isNone) || (numV (nextS l.tail.tail.tail)).isNone) || (numV (nextS l.tail.tail.tail.tail)).isNone) || l.tail.tail.tail.tail.tail.isEmpty || (yesX (nextS l.tail.tail.tail.tail.tail)).isNone)) :
    (b = true → rulsX l = none) ∧ (b = false → rulsX l = (rulsX l.tail.tail.tail.tail.tail.tail).map fun rs => ⟨v1, v2, v3, v4, v5, decide (nextS l.tail.tail.tail.tail.tail = ⟨#[121, 101, 115]⟩)⟩ :: rs) := by
  subst hb
  match l with
  | [] => exact absurd rfl hl
  | [a] => exact ⟨fun _ => rfl, fun h => by simp [nextS] at h⟩
  | [a, b] => exact ⟨fun _ => rfl, fun h => by simp [nextS] at h⟩
  | [a, b, c] => exact ⟨fun _ => rfl, fun h => by simp [nextS] at h⟩
  | [a, b, c, d] => exact ⟨fun _ => rfl, fun h => by simp [nextS] at h⟩
  | [a, b, c, d, e] => exact ⟨fun _ => rfl, fun h => by simp [nextS] at h⟩
  | a :: b :: c :: d :: e :: f :: l =>
    have h1' : NumIs a v1 := h1
    have h2' : NumIs b v2 := h2
    have h3' : NumIs c v3 := h3
    have h4' : NumIs d v4 := h4
    have h5' : NumIs e v5 := h5
    show ((((((((numV a).isNone || (numV b).isNone) || (numV c).isNone) || (numV d).isNone) || (numV e).isNone) || false || (yesX f).isNone)) = true → rulsX (a :: b :: c :: d :: e :: f :: l) = none) ∧ ((((((((numV a).isNone || (numV b).isNone) || (numV c).isNone) || (numV d).isNone) || (numV e).isNone) || false || (yesX f).isNone)) = false → rulsX (a :: b :: c :: d :: e :: f :: l) = (rulsX l).map fun rs => ⟨v1, v2, v3, v4, v5, decide (f = ⟨#[121, 101, 115]⟩)⟩ :: rs)
    rw [rulsX]
    unfold rulX
    cases ha : numV a with
    | none => exact ⟨fun _ => rfl, fun h => by simp at h⟩
    | some n1 =>
      cases hb : numV b with
      | none => exact ⟨fun _ => rfl, fun h => by simp at h⟩
      | some n2 =>
        cases hc : numV c with
        | none => exact ⟨fun _ => rfl, fun h => by simp at h⟩
        | some n3 =>
          cases hd : numV d with
          | none => exact ⟨fun _ => rfl, fun h => by simp at h⟩
          | some n4 =>
            cases he : numV e with
            | none => exact ⟨fun _ => rfl, fun h => by simp at h⟩
            | some n5 =>
              cases hf : yesX f with
              | none => exact ⟨fun _ => rfl, fun h => by simp at h⟩
              | some y =>
                refine ⟨fun h => by simp at h, fun _ => ?_⟩
                have hy : y = decide (f = ⟨#[121, 101, 115]⟩) := by
                  unfold yesX at hf
                  split at hf
                  · rename_i h0
                    injection hf with hf
                    rw [← hf, h0]
                    rfl
                  · split at hf
                    · rename_i h0 h6
                      injection hf with hf
                      rw [← hf, h6]
                      rfl
                    · cases hf
                rw [h1' n1 ha, h2' n2 hb, h3' n3 hc, h4' n4 hd, h5' n5 he, hy]
                cases rulsX l <;> rfl
theorem yes_none (s : ByteArray) : (yesX s).isNone = (!decide (s = ⟨#[121, 101, 115]⟩) && !decide (s = ⟨#[110, 111]⟩)) := by
  unfold yesX
  by_cases h1 : s = ⟨#[121, 101, 115]⟩
  · rw [if_pos h1, decide_eq_true h1]; rfl
  · rw [if_neg h1, decide_eq_false h1]
    by_cases h2 : s = ⟨#[110, 111]⟩
    · rw [if_pos h2, decide_eq_true h2]; rfl
    · rw [if_neg h2, decide_eq_false h2]; rfl
/-- The rules so far, and what is left to be read. -/
def RulAt (t : List ByteArray) (rs : List Rul) (l : List ByteArray) (b : Bool) : Prop := rulsX t = if b = true then none else (rulsX l).map fun x => rs ++ x
theorem RulAt.start (t : List ByteArray) : RulAt t [] t false := by
  unfold RulAt
  rw [if_neg (by decide)]
  cases rulsX t <;> rfl
theorem RulAt.good {t l l2 : List ByteArray} {rs : List Rul} {r : Rul} (h : RulAt t rs l false) (hs : rulsX l = (rulsX l2).map fun x => r :: x) : RulAt t (rs ++ [r]) l2 false := by
  unfold RulAt at h ⊢
  rw [h, hs, if_neg (by decide), if_neg (by decide)]
  cases rulsX l2 <;> simp
theorem RulAt.ill {t l : List ByteArray} {rs rs2 : List Rul} {l2 : List ByteArray} (h : RulAt t rs l false) (hs : rulsX l = none) : RulAt t rs2 l2 true := by
  unfold RulAt at h ⊢
  rw [h, hs, if_neg (by decide), if_pos rfl]
  rfl
/-- "rules": when all is read, or one was wrong. -/
theorem said_rules {t l : List ByteArray} {rs : List Rul} {b : Bool} (h : RulAt t rs l b) (he : l = [] ∨ b = true) :
    (saidX (sRules :: t)).isSome = (!b && l.isEmpty) ∧ ∀ x, saidX (sRules :: t) = some x → x = { opNo with kind := 1, rules := rs } := by
  unfold RulAt at h
  rw [saidX_rules, h]
  cases b with
  | true => exact ⟨rfl, fun x hx => by cases hx⟩
  | false =>
    rcases he with rfl | he
    · rw [if_neg (by decide)]
      refine ⟨rfl, fun x hx => ?_⟩
      simp [rulsX] at hx
      exact hx.symm
    · cases he
theorem said_else {h : ByteArray} {t : List ByteArray} (h1 : h ≠ sRules) (h2 : h ≠ sPut) (h3 : h ≠ sCut) : saidX (h :: t) = none := by
  unfold saidX
  dsimp only
  rw [if_neg h1, if_neg h2, if_neg h3]
end Go.Proofs.WK
