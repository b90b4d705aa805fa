/-
  wytop.begun, began, and what is hidden.
-/
import Derived.Test.YtljjiicjnoljbaaSrvDoA
import Derived.Test.YtljjiicjnoljbaaTopP
namespace Go.Proofs.WK
open Go.RowKit Rp
set_option maxRecDepth 100000 in
theorem topBegun (w : World) : Calls Try.prog 29 #[] w fun e w' => e = .returned (.bool true) ∧ Below w.heap.size w w' := by
  go_enter Try.func29, Try.ntmps29
  go_wp2_with fail
  refine (storePut none 0 [] ⟨⟨#[97]⟩, 0, [], []⟩ none none 0 0 (fun _ => False) (fun _ => False) (fun _ => False) _ Row.nil (Nat.le_refl _) Row.nil (Nat.le_refl _) Row.nil (Nat.le_refl _)).mono ?_
  rw [show putErr [] ⟨⟨#[97]⟩, 0, [], []⟩ = 0 by decide +kernel, show putV [] ⟨⟨#[97]⟩, 0, [], []⟩ = [⟨⟨⟨#[97]⟩, 0, [], []⟩, false⟩] by decide +kernel]
  rintro e w1 ⟨v, rfl, s1, hb⟩
  obtain ⟨X, d, rfl⟩ := Sl.form s1
  have HB := Aside.mk hb
  clear s1 hb
  go_wp2_with fail
  go_ret
  exact ⟨rfl, HB.out⟩
def oRules : OpV := ⟨1, ⟨0, 0, 0⟩, rules0, ⟨⟨#[]⟩, 0, [], []⟩, ⟨#[]⟩, ⟨⟨#[]⟩, ⟨#[]⟩⟩⟩
theorem rulesLit (w : World) (l : List Rul) (hl : l.length ≤ 9) : rulR.Row (w.alloc (.cells (l.flatMap rulC).toArray 44)) (fun k => k = w.heap.size) (some ⟨w.heap.size, 0, none⟩) l := by
  have hrep : ∀ l : List Rul, Reps (rulR.K w (fun _ => False)) rulR.sz l (l.flatMap rulC) := by
    intro l
    induction l with
    | nil => exact ⟨rfl, fun j p hp => by simp at hp⟩
    | cons x l ih =>
      have h := Reps.append (Reps.snoc (ps := []) (cs := []) (R := rulR.K w (fun _ => False)) (size := rulR.sz) ⟨rfl, fun j p hp => by simp at hp⟩ ((rulK (w := w) (ok := fun _ => False) (x := x) (cs := rulC x)).2 rfl) rfl) ih
      simpa using h
  have h := (Own.lit rulR 44 w 0 (fun _ => False) (Nat.zero_le _) (hrep l) (by omega)).row.2.2
  exact h.mono fun k hk _ => hk.elim False.elim fun e => by simpa [Value.ownBlock] using e.symm
theorem doRules0 : doS ⟨up3, [], [], []⟩ oRules = (srv0, .err 0) := by
  rw [doS_rules rfl, show rulesErr oRules.rules = 0 by decide]
  rfl
set_option maxHeartbeats 1600000 in
set_option maxRecDepth 100000 in
theorem topBegan (w : World) : Calls Try.prog 30 #[] w fun e w' => ∃ g, w.heap.size ≤ g ∧ e = .returned (.tuple #[.pointer (some ⟨g, 0, none⟩), .bool true]) ∧ SrvIs w' g (fun k => w.heap.size ≤ k ∧ k ≠ g) srv0 ∧ Below w.heap.size w w' := by
  have hl0 := (Own.lit int 3 w 0 (fun _ => False) (Nat.zero_le _) (reps_int w _ up3) (by decide)).row.2.2
  have HL := Aside.mk hl0
  have HB0 : Aside (Below w.heap.size w (w.alloc (.cells #[.int .i64 0, .int .i64 1, .int .i64 2] 3))) := ⟨(Below.refl _ _).alloc (Nat.le_refl _) _⟩
  clear hl0
  go_enter Try.func30, Try.ntmps30
  go_wp2_with fail
  refine (serverNew _ _ up3 _ _ HL.out roles3).mono ?_
  rintro e w1 ⟨hb, g, hg, rfl, hs⟩
  have hr := rulesLit w1 rules0 (by decide)
  have hal : Below w1.heap.size w1 (w1.alloc (.cells (rules0.flatMap rulC).toArray 44)) := (Below.refl _ _).alloc (Nat.le_refl _) _
  have hg1 : g < w1.heap.size := by obtain ⟨_, _, _, _, _, _, _, _, h0, _⟩ := hs; exact h0.lt
  have hg0 : w.heap.size ≤ g := Nat.le_trans HB0.out.size hg
  have HS := Aside.mk ((hs.more (F' := fun k => w.heap.size ≤ k ∧ k ≠ g) fun k hk _ => ⟨Nat.le_trans HB0.out.size hk.1, by omega⟩).below hal)
  have HR := Aside.mk hr
  have HB1 := Aside.mk (below_step (below_step HB0.out hb) hal)
  have HG := Aside.mk (And.intro hg0 hg1)
  clear hb hs hr hal hg hg1 hg0
  go_wp2_with fail
  refine (doAll g _ _ oRules (.inl rfl) _ 3 none 0 none 0 _ (fun _ => False) (fun _ => False) _ HS.out (fun k hk => hk.2) HR.out Row.nil (Nat.le_refl _) Row.nil (Nat.le_refl _)).mono ?_
  rintro e w2 ⟨v1, v2, rfl, s1, s2, hs, hg⟩
  rw [doRules0] at s1 s2 hs
  rw [doRules0]
  obtain ⟨X1, d1, rfl⟩ := Sl.form s1
  obtain ⟨X2, d2, rfl⟩ := Sl.form s2
  have HS2 := Aside.mk (hs.more (F' := fun k => w.heap.size ≤ k ∧ k ≠ g) fun k hk _ => hk.elim (fun h => h) fun h => ⟨Nat.le_trans HB1.out.size h, by have := HG.out.2; simp at h; omega⟩)
  have HB2 := Aside.mk (HB1.out.grown hg (Nat.le_trans (Nat.le_refl _) HB1.out.size) (fun k hk => by injection hk with hk; have := HG.out; omega))
  clear s1 s2 hs hg
  go_wp2_with fail
  go_quiet (fail)
  go_wp2_with fail
  go_ret2
  exact ⟨g, HG.out.1, rfl, (HS2.out.below ((Below.refl _ _).alloc (Nat.le_refl _) _)).below (below_drewN (Below.refl _ _) _), below_step (HB2.out.alloc HB2.out.size _) (below_drewN (Below.refl _ _) _)⟩
end Go.Proofs.WK
