/-
  slices.Index, slices.Contains at fields and texts.
-/
import Derived.Test.YtljjiicjnoljbaaSame
import Derived.Test.YtljjiicjnoljbaaPl0
namespace Go.Proofs.WK
open Go.RowKit Rp
/-- Not among the first k. -/
def NotIn {α : Type} (l : List α) (x : α) (k : Nat) : Prop := ∀ j (h : j < l.length), j < k → l[j] ≠ x
theorem NotIn.zero {α : Type} (l : List α) (x : α) : NotIn l x 0 := fun _ _ h => by omega
theorem NotIn.step {α : Type} {l : List α} {x : α} {k : Nat} (h : NotIn l x k) (hk : k < l.length) (hne : l[k] ≠ x) : NotIn l x (k + 1) := fun j hj hjk => by
  by_cases e : j = k
  · subst e; exact hne
  · exact h j hj (by omega)
theorem NotIn.end_ {α : Type} [DecidableEq α] {l : List α} {x : α} (h : NotIn l x l.length) : decide (x ∈ l) = false := decide_eq_false fun hx => by
  obtain ⟨j, hj, e⟩ := List.getElem_of_mem hx
  exact h j hj hj e
theorem in_at {α : Type} [DecidableEq α] {l : List α} {x : α} {k : Nat} (hk : k < l.length) (h : l[k] = x) : decide (x ∈ l) = true := decide_eq_true (h ▸ List.getElem_mem hk)
theorem fld_ne {a b : Fld} (h : ¬ a = b) : (a.key.toList == b.key.toList && a.val.toList == b.val.toList) = false := by
  have := fldEq_eq a b
  unfold fldEq at this
  rw [this, decide_eq_false h]
theorem fld_eq {a b : Fld} (h : a = b) : (a.key.toList == b.key.toList && a.val.toList == b.val.toList) = true := by
  have := fldEq_eq a b
  unfold fldEq at this
  rw [this, decide_eq_true h]
set_option maxHeartbeats 1600000 in
set_option maxRecDepth 100000 in
theorem indexFld (A : Option Addr) (c : Nat) (l : List Fld) (x : Fld) (ok : Nat → Prop) (w : World) (hl : fldR.Row w ok A l) :
    Calls Try.prog 118 #[.slice A l.length c, .agg #[.string x.key, .string x.val]] w fun e w' => ∃ r : Int, e = .returned (.int .i64 r) ∧ decide (0 ≤ r) = decide (x ∈ l) ∧ Below w.heap.size w w' := by
  have hb : Below w.heap.size w (w.alloc (.cells #[.string x.key, .string x.val] 60)) := (Below.refl _ _).alloc (Nat.le_refl _) _
  have HL := Aside.mk (hl.below hb)
  have HQ := Aside.mk (Bk.made w [.string x.key, .string x.val] 60)
  have HB := Aside.mk hb
  have b1 := hl.1
  have hnq := eqlFld
  have hgd := guardFld
  clear hl hb
  go_enter Try.func118, Try.ntmps118
  go_wp2_with fail
  go_loopw [8] (fun i wr => ∃ k : Nat, k ≤ l.length ∧ i = .int .i64 k ∧ Aside (NotIn l x k) ∧ Aside (Drawn (w.alloc (.cells #[.string x.key, .string x.val] 60)) wr)) (fun i _ => l.length - (intOf i).toNat)
  case atStart => exact ⟨0, Nat.zero_le _, rfl, ⟨NotIn.zero _ _⟩, ⟨Drawn.refl _⟩⟩
  case round =>
    obtain ⟨k, hk, rfl, HK, HD⟩ := hrel
    by_cases hlt : k < l.length
    · obtain ⟨ad, rfl, _, y0, y1⟩ := fld_at (HL.out.below HD.out.below) hlt
      have q0 := (HQ.out.below HD.out.below).two
      have p0 : (0 : Int) ≤ (k : Int) := by omega
      have p1 : (k : Int) < (l.length : Int) := by omega
      by_cases he : l[k] = x
      · have HI := Aside.mk (in_at hlt he)
        have q := fld_eq he.symm
        clear he
        go_wp2
        go_quiet (fail)
        go_wp2
        go_ret
        exact ⟨_, rfl, (decide_eq_true (by omega)).trans HI.out.symm, below_step HB.out (HD.out.step _).below⟩
      · have HK1 := Aside.mk (HK.out.step hlt he)
        have q := fld_ne (fun e : x = l[k] => he e.symm)
        clear he
        go_wp2
        go_quiet (fail)
        go_wp2
        refine ⟨⟨k + 1, by omega, by go_num, HK1, ⟨HD.out.step _⟩⟩, by simp [intOf]; omega⟩
    · obtain rfl : k = l.length := by omega
      have HE := Aside.mk HK.out.end_
      go_wp2_with fail
      go_ret
      exact ⟨_, rfl, by rw [HE.out]; rfl, below_step HB.out HD.out.below⟩
theorem containsFld (A : Option Addr) (c : Nat) (l : List Fld) (x : Fld) (ok : Nat → Prop) (w : World) (hl : fldR.Row w ok A l) :
    Calls Try.prog 107 #[.slice A l.length c, .agg #[.string x.key, .string x.val]] w fun e w' => e = .returned (.bool (decide (x ∈ l))) ∧ Below w.heap.size w w' := by
  have hb : Below w.heap.size w (w.alloc (.cells #[.string x.key, .string x.val] 60)) := (Below.refl _ _).alloc (Nat.le_refl _) _
  have HL := Aside.mk (hl.below hb)
  have HB := Aside.mk hb
  clear hl hb
  go_enter Try.func107, Try.ntmps107
  go_wp2_with fail
  refine (indexFld A c l x ok _ HL.out).mono ?_
  rintro e w1 ⟨r, rfl, hr, hb⟩
  have HB1 := Aside.mk (below_step HB.out hb)
  clear hb
  go_wp2_with fail
  go_ret
  exact ⟨by rw [← hr]; rfl, HB1.out⟩
end Go.Proofs.WK
