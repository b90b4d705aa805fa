/-
  store.Cut (P23).
-/
import Derived.Test.YtljjiicjnoljbaaStoPut
namespace Go.Proofs.WK
open Go.RowKit Rp
/-- Five ways of what is taken away. -/
theorem cut_ways (l : List Ver) (id : ByteArray) (c : Int) (h1 : storeErr l = 0) :
    (idOk id = false ∧ Aside (cutErr l id c = 3 ∧ cutV l id c = [])) ∨ ((idOk id = true ∧ decide (0 ≤ c ∧ c ≤ 255) = false) ∧ Aside (cutErr l id c = 1 ∧ cutV l id c = [])) ∨
    ((idOk id = true ∧ decide (0 ≤ c ∧ c ≤ 255) = true ∧ livesB l id c = false) ∧ Aside (cutErr l id c = 4 ∧ cutV l id c = [])) ∨
    ((idOk id = true ∧ decide (0 ≤ c ∧ c ≤ 255) = true ∧ livesB l id c = true ∧ (((sameN l c : Nat) : Int) == 20) = true) ∧ Aside (cutErr l id c = 2 ∧ cutV l id c = [])) ∨
    ((idOk id = true ∧ decide (0 ≤ c ∧ c ≤ 255) = true ∧ livesB l id c = true ∧ (((sameN l c : Nat) : Int) == 20) = false) ∧ Aside (cutErr l id c = 0 ∧ cutV l id c = l ++ [⟨⟨id, c, [], []⟩, true⟩])) := by
  have hs := store_same h1 c
  have key : ∀ x, cutErr l id c = x → x ≠ 0 → cutErr l id c = x ∧ cutV l id c = [] := fun x hx h0 => ⟨hx, by rw [cutV, hx, if_neg h0]⟩
  have e0 : cutErr l id c = if idOk id = false then 3 else if ¬ (0 ≤ c ∧ c ≤ 255) then 1 else if livesI l id c < 0 then 4 else if 20 ≤ sameN l c then 2 else 0 := by rw [cutErr, if_neg (by simpa using h1)]
  cases a1 : idOk id
  · exact .inl ⟨rfl, ⟨key 3 (by rw [e0, if_pos a1]) (by decide)⟩⟩
  · rw [if_neg (by simp [a1])] at e0
    cases a2 : decide (0 ≤ c ∧ c ≤ 255)
    · exact .inr (.inl ⟨⟨rfl, rfl⟩, ⟨key 1 (by rw [e0, if_pos (of_decide_eq_false a2)]) (by decide)⟩⟩)
    · rw [if_neg (by simpa using of_decide_eq_true a2)] at e0
      cases a3 : livesB l id c
      · exact .inr (.inr (.inl ⟨⟨rfl, rfl, rfl⟩, ⟨key 4 (by rw [e0, if_pos (by have := of_decide_eq_false a3; omega)]) (by decide)⟩⟩))
      · rw [if_neg (by have := of_decide_eq_true a3; omega)] at e0
        by_cases a4 : 20 ≤ sameN l c
        · exact .inr (.inr (.inr (.inl ⟨⟨rfl, rfl, rfl, by simp; omega⟩, ⟨key 2 (by rw [e0, if_pos a4]) (by decide)⟩⟩)))
        · rw [if_neg a4] at e0
          exact .inr (.inr (.inr (.inr ⟨⟨rfl, rfl, rfl, by simp; omega⟩, ⟨e0, by rw [cutV, if_pos e0]⟩⟩)))
set_option maxHeartbeats 4000000 in
set_option maxRecDepth 100000 in
theorem storeCut (A : Option Addr) (c : Nat) (l : List Ver) (id : ByteArray) (cats : Int) (ok : Nat → Prop) (w : World) (hr : verR.Row w ok A l) (hc : l.length ≤ c) :
    Calls Try.prog 101 #[.slice A l.length c, .string id, .int .i64 cats] w fun e w' => ∃ v, e = .returned (.tuple #[v, .int .i64 (cutErr l id cats)]) ∧
      verR.Sl w' (fun k => w.heap.size ≤ k) v (cutV l id cats) ∧ Below w.heap.size w w' := by
  have HR := Aside.mk hr
  clear hr
  by_cases h1 : storeErr l = 0
  · have H1 := Aside.mk h1
    rcases cut_ways l id cats h1 with ⟨a1, HX⟩ | ⟨⟨a1, a2⟩, HX⟩ | ⟨⟨a1, a2, a3⟩, HX⟩ | ⟨⟨a1, a2, a3, a4⟩, HX⟩ | ⟨⟨a1, a2, a3, a4⟩, HX⟩
    case inr.inr.inr.inr =>
      have hsm := put_small (x := ⟨⟨id, cats, [], []⟩, true⟩) H1.out (by simp)
      have HSM := Aside.mk hsm
      have HL := Aside.mk (show l.length * 80 ≤ 140737488355328 ∧ (l.length + 1) * 80 ≤ 140737488355328 by have := (store_ok H1.out).1; omega)
      rw [HX.out.1, HX.out.2]
      clear h1 hsm
      go_enter Try.func101, Try.ntmps101
      go_wp2_with fail
      refine (storeCheck _ c l _ _ HR.out hc).mono ?_
      rw [H1.out]
      rintro e w1 ⟨rfl, hb⟩
      have HR1 := Aside.mk (HR.out.below hb)
      have HB1 := Aside.mk hb
      clear HR hb
      go_wp2_with (first
        | (go_at_call 105; refine (recId _ _).mono ?_; rw [a1]; rintro e w' ⟨rfl, rfl⟩)
        | (go_at_call 61; refine (labelCats _ _).mono ?_; rw [a2]; rintro e w' ⟨rfl, rfl⟩)
        | (go_at_call 108; refine (storeLives _ _ _ l id cats _ _ HR1.out rfl).mono ?_; rw [a3]; rintro e w' ⟨rfl, rfl⟩)
        | (go_at_call 99; refine (storeMany _ _ _ l cats _ _ HR1.out rfl).mono ?_; rintro e w2 ⟨rfl, hb⟩; have HR2 := Aside.mk (HR1.out.below hb); have HB2 := Aside.mk (below_step HB1.out hb); clear hb)
        | (go_at_call 84; refine (cloneV A c l ok _ HR2.out HL.out.1).mono ?_; rintro e w4 ⟨v4, rfl, ho, hb⟩
           have HB4 := Aside.mk (below_step HB2.out hb)
           have HO4 := Aside.mk ho
           have HS4 := Aside.mk hb.size
           clear hb ho)
        | (at_builtin; refine list_one (w0 := w4) verR w2.heap.size (by rfl) (.tmp 30) (.tmp 35) 66 129 _ 80 (by rfl) Try.underlying66 infoV (by rfl) (by decide) (by decide) v4 l ⟨⟨id, cats, [], []⟩, true⟩ [.string id, .int .i64 cats, .slice none 0 0, .slice none 0 0, .bool true] (fun k => ok k ∧ k < w2.heap.size) w4.heap.size 1 (by rfl) (by rfl) (blk_new w4 _ _) (verK.2 ⟨_, _, rfl, Sl.nil _ _ _, Sl.nil _ _ _⟩) (HO4.out.below ((Below.refl _ _).alloc (Nat.le_refl _) _)) ((Below.refl _ _).alloc HS4.out _) (Nat.le_trans HS4.out (by simp)) HL.out.2 ?_; intro v5 w5 HO5 HB5 hg5 hat5
           have HO5' := Aside.mk HO5; have HB5' := Aside.mk (HB4.out.grown (World.grownBy.trans (World.grownBy_alloc w4 _ _) hg5) HB4.out.size (fun k hk => Nat.le_trans HB2.out.size (HO4.out.lt k hk).1)); obtain ⟨A5, c5, rfl⟩ := Sl.form HO5.sl; clear HO5 HB5 hg5 hat5)
        | (go_at_call 82; refine (storeCopied A5 _ c5 (l ++ [⟨⟨id, cats, [], []⟩, true⟩]) _ _ HO5'.out.row.2.2 (by simp) HSM.out.1 HSM.out.2).mono ?_; rintro e w6 ⟨v6, rfl, ho, hb⟩
           have HO6 := Aside.mk (And.intro ho hb)
           clear ho hb))
      go_ret2
      exact ⟨_, rfl, (Own.sl_new HO6.out.1).mono fun k hk _ => Nat.le_trans HB5'.out.size hk, below_step HB5'.out HO6.out.2⟩
    all_goals
      rw [HX.out.1, HX.out.2]
      clear h1
      go_enter Try.func101, Try.ntmps101
      go_wp2_with fail
      refine (storeCheck _ c l _ _ HR.out hc).mono ?_
      rw [H1.out]
      rintro e w1 ⟨rfl, hb⟩
      have HR1 := Aside.mk (HR.out.below hb)
      have HB1 := Aside.mk hb
      clear HR hb
      go_wp2_with (first
        | (go_at_call 105; refine (recId _ _).mono ?_; rw [a1]; rintro e w' ⟨rfl, rfl⟩)
        | (go_at_call 61; refine (labelCats _ _).mono ?_; rw [a2]; rintro e w' ⟨rfl, rfl⟩)
        | (go_at_call 108; refine (storeLives _ _ _ l id cats _ _ HR1.out rfl).mono ?_; rw [a3]; rintro e w' ⟨rfl, rfl⟩)
        | (go_at_call 99; refine (storeMany _ _ _ l cats _ _ HR1.out rfl).mono ?_; rintro e w2 ⟨rfl, hb⟩; have HB1 := Aside.mk (below_step HB1.out hb); clear hb))
      go_ret2
      exact ⟨_, rfl, Sl.nil _ _ _, HB1.out⟩
  · have e3 : cutErr l id cats = storeErr l := by rw [cutErr, if_pos h1]
    have e4 : cutV l id cats = [] := by rw [cutV, e3, if_neg h1]
    have g3 : (storeErr l != 0) = true := by simp [h1]
    rw [e3, e4]
    clear e3 e4 h1
    go_enter Try.func101, Try.ntmps101
    go_wp2_with fail
    refine (storeCheck _ c l _ _ HR.out hc).mono ?_
    rintro e w1 ⟨rfl, hb⟩
    have HB1 := Aside.mk hb
    clear HR hb
    go_wp2_with fail
    go_ret2
    exact ⟨_, rfl, Sl.nil _ _ _, HB1.out⟩
end Go.Proofs.WK
