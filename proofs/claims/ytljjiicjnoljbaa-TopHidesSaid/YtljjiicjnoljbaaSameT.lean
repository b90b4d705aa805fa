/-
  wyref.SameTold, where both tell the same, and no notes.
-/
import Derived.Test.YtljjiicjnoljbaaSameSto
namespace Go.Proofs.WK
open Go.RowKit Rp
set_option maxRecDepth 100000 in
theorem equalN0 (A B : Option Addr) (c d : Nat) (w : World) :
    Calls Try.prog 80 #[.slice A 0 c, .slice B 0 d] w fun e w' => e = .returned (.bool true) ∧ w = w' := by
  go_enter Try.func80, Try.ntmps80
  go_wp2_with fail
  refine wp_loop_rounds 1 ?_
  rw [rounds_succ]
  go_wp2_with fail
  go_ret
  exact ⟨rfl, rfl⟩
set_option maxHeartbeats 1600000 in
set_option maxRecDepth 100000 in
theorem sameTold (code : Int) (l : List Ver) (ids : List ByteArray) (A1 A2 A3 B1 B2 B3 : Option Addr) (c1 c2 c3 d1 d2 d3 : Nat) (o1 o2 o3 o4 : Nat → Prop) (w : World) (h1 : verR.Row w o1 A1 l) (h2 : str.Row w o2 A2 ids) (h3 : verR.Row w o3 B1 l) (h4 : str.Row w o4 B2 ids) :
    Calls Try.prog 35 #[.agg #[.int .i64 code, .slice A1 l.length c1, .slice A2 ids.length c2, .slice A3 0 c3], .agg #[.int .i64 code, .slice B1 l.length d1, .slice B2 ids.length d2, .slice B3 0 d3]] w fun e w' => e = .returned (.bool true) ∧ Below w.heap.size w w' := by
  have hb : Below w.heap.size w ((w.alloc (.cells #[.int .i64 code, .slice A1 l.length c1, .slice A2 ids.length c2, .slice A3 0 c3] 69)).alloc (.cells #[.int .i64 code, .slice B1 l.length d1, .slice B2 ids.length d2, .slice B3 0 d3] 69)) := ((Below.refl _ _).alloc (Nat.le_refl _) _).alloc (by simp) _
  have H1 := Aside.mk (h1.below hb)
  have H2 := Aside.mk (h2.below hb)
  have H3 := Aside.mk (h3.below hb)
  have H4 := Aside.mk (h4.below hb)
  have HB := Aside.mk hb
  have HQ := Aside.mk ((Bk.made w [.int .i64 code, .slice A1 l.length c1, .slice A2 ids.length c2, .slice A3 0 c3] 69).alloc (.cells #[.int .i64 code, .slice B1 l.length d1, .slice B2 ids.length d2, .slice B3 0 d3] 69))
  have hp := Bk.made (w.alloc (.cells #[.int .i64 code, .slice A1 l.length c1, .slice A2 ids.length c2, .slice A3 0 c3] 69)) [.int .i64 code, .slice B1 l.length d1, .slice B2 ids.length d2, .slice B3 0 d3] 69
  rw [show (w.alloc (.cells #[.int .i64 code, .slice A1 l.length c1, .slice A2 ids.length c2, .slice A3 0 c3] 69)).heap.size = w.heap.size + 1 by simp] at hp
  have HP := Aside.mk hp
  clear hp
  clear h1 h2 h3 h4 hb
  go_enter Try.func35, Try.ntmps35
  go_wp2_with (first
    | (go_at_call 38; refine (refSameStore _ _ _ _ _ _ l l _ _ _ H1.out H3.out rfl rfl).mono ?_; rw [decide_eq_true rfl]; rintro e w1 ⟨rfl, hb⟩
       have HB1 := Aside.mk (below_step HB.out hb); have q1 := bcell hb; have HX2 := Aside.mk (H2.out.below hb); have HX4 := Aside.mk (H4.out.below hb); have HQ1 := Aside.mk (HQ.out.below hb); have HP1 := Aside.mk (HP.out.below hb); clear hb)
    | (go_at_call 9; refine (equalSt _ _ _ _ ids ids _ _ _ HX2.out HX4.out).mono ?_; rw [decide_eq_true rfl]; rintro e w2 ⟨rfl, hd⟩
       have HB2 := Aside.mk (below_step HB1.out hd.below); have q2 := (HQ1.out.below hd.below).four; have q3 := (HP1.out.below hd.below).four; clear hd)
    | (go_at_call 80; refine (equalN0 _ _ _ _ _).mono ?_; rintro e w3 ⟨rfl, rfl⟩))
  go_ret
  exact ⟨rfl, HB2.out⟩
end Go.Proofs.WK
