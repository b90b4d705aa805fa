/-
  server.New, Rules, Versions (P35, P43); wykeep.Within.
-/
import Derived.Test.YtljjiicjnoljbaaSrvC
import Derived.Test.YtljjiicjnoljbaaClone
import Derived.Test.YtljjiicjnoljbaaStoCp
namespace Go.Proofs.WK
open Go.RowKit Rp
theorem own_int {t : TypeId} {w : World} {base : Nat} {ok : Nat → Prop} {v : Value} {xs : List Int} (h : int.Own t w base ok v xs) : int.Own t w base (fun _ => False) v xs := by
  obtain ⟨inner, h1, h2, h3⟩ := h
  exact ⟨inner, h1, h2, fun j p hp => int_K.2 (int_K.1 (h3 j p hp))⟩
set_option maxHeartbeats 1600000 in
set_option maxRecDepth 100000 in
theorem serverNew (A : Option Addr) (c : Nat) (up : List Int) (ok : Nat → Prop) (w : World) (hr : int.Row w ok A up) (h0 : roleErr up = 0) :
    Calls Try.prog 69 #[.slice A up.length c] w fun e w' => Below w.heap.size w w' ∧ ∃ g, w.heap.size ≤ g ∧ e = .returned (.tuple #[.pointer (some ⟨g, 0, none⟩), .int .i64 0]) ∧ SrvIs w' g (fun k => w.heap.size ≤ k ∧ k < g) ⟨up, [], [], []⟩ := by
  have HR := Aside.mk hr
  have hn := hr.1
  clear hr
  have HE := Aside.mk h0
  have HL := Aside.mk (show up.length * 8 ≤ 140737488355328 by have := (roleErr_ok h0).1; omega)
  clear h0
  go_enter Try.func69, Try.ntmps69
  go_wp2_with fail
  refine (roleCheck A c up _ _ HR.out hn).mono ?_
  rw [HE.out]
  rintro e w1 ⟨rfl, heq⟩
  have hb : Below w.heap.size w w1 := by rw [← heq]; exact Below.refl _ _
  clear heq
  have HR1 := Aside.mk (HR.out.below hb)
  have HB1 := Aside.mk hb
  clear hb
  go_wp2_with fail
  refine (cloneI A c up _ _ HR1.out HL.out).mono ?_
  rintro e w2 ⟨v, rfl, ho, hb⟩
  replace ho := own_int ho
  have hs := ho.sl
  obtain ⟨X, d, rfl, hd, hrow⟩ := hs
  have HD := Aside.mk hd
  have hrow2 := hrow.mono (ok' := fun k => w.heap.size ≤ k ∧ k < w2.heap.size) fun k hk hk2 => ⟨hk.elim False.elim (fun h => Nat.le_trans HB1.out.size (ho.lt k h).1), hk2⟩
  have HRW := Aside.mk hrow2
  have HB2 := Aside.mk (below_step HB1.out hb)
  clear ho hd hrow hb
  go_wp2_with fail
  go_ret2
  have hal : Below w2.heap.size w2 (w2.alloc (.cells #[.slice X up.length d, .slice none 0 0, .slice none 0 0, .slice none 0 0] 115)) := (Below.refl _ _).alloc (Nat.le_refl _) _
  exact ⟨HB2.out.alloc HB2.out.size _, w2.heap.size, HB2.out.size, rfl, X, d, none, 0, none, 0, none, 0, Bk.made w2 [.slice X up.length d, .slice none 0 0, .slice none 0 0, .slice none 0 0] _, ⟨HD.out, HRW.out.below hal⟩, ⟨Nat.le_refl _, Row.nil⟩, ⟨Nat.le_refl _, Row.nil⟩, Nat.le_refl _, Row.nil⟩
set_option maxHeartbeats 1600000 in
set_option maxRecDepth 100000 in
theorem serverNew_bad (A : Option Addr) (c : Nat) (up : List Int) (ok : Nat → Prop) (w : World) (hr : int.Row w ok A up) (h0 : ¬ roleErr up = 0) :
    Calls Try.prog 69 #[.slice A up.length c] w fun e w' => Below w.heap.size w w' ∧ e = .returned (.tuple #[.pointer none, .int .i64 (roleErr up)]) := by
  have HR := Aside.mk hr
  have hn := hr.1
  clear hr
  have g3 : (roleErr up != 0) = true := by simp [h0]
  clear h0
  go_enter Try.func69, Try.ntmps69
  go_wp2_with fail
  refine (roleCheck A c up _ _ HR.out hn).mono ?_
  rintro e w1 ⟨rfl, heq⟩
  have hb : Below w.heap.size w w1 := by rw [← heq]; exact Below.refl _ _
  clear heq
  have HB1 := Aside.mk hb
  clear hb
  go_wp2_with fail
  go_ret2
  exact ⟨HB1.out, rfl⟩
set_option maxRecDepth 100000 in
theorem serverRules (g : Nat) (F : Nat → Prop) (s : Srv) (w : World) (h : SrvIs w g F s) (hl : s.rules.length * 48 ≤ 140737488355328) :
    Calls Try.prog 34 #[.pointer (some ⟨g, 0, none⟩)] w fun e w' => ∃ v, e = .returned v ∧ rulR.Own 44 w' w.heap.size (fun k => F k ∧ k < w.heap.size) v s.rules ∧ Below w.heap.size w w' := by
  obtain ⟨A1, c1, A2, c2, A3, c3, A4, c4, h0, h1, h2, h3, h4⟩ := h
  have q := h0.four
  have HR := Aside.mk h2.2
  clear h0 h1 h2 h3 h4
  go_enter Try.func34, Try.ntmps34
  go_wp2_with fail
  refine (cloneR A2 c2 s.rules _ _ HR.out hl).mono ?_
  rintro e w1 ⟨v, rfl, ho, hb⟩
  have HO := Aside.mk ho
  have HB := Aside.mk hb
  clear ho hb q
  go_wp2_with fail
  go_ret
  exact ⟨_, rfl, HO.out, HB.out⟩
set_option maxRecDepth 100000 in
theorem serverVersions (g : Nat) (F : Nat → Prop) (s : Srv) (w : World) (h : SrvIs w g F s) (hs : storeErr s.l = 0) :
    Calls Try.prog 37 #[.pointer (some ⟨g, 0, none⟩)] w fun e w' => ∃ v, e = .returned v ∧ verR.Own 129 w' w.heap.size (fun k => w.heap.size ≤ k) v s.l ∧ Below w.heap.size w w' := by
  obtain ⟨A1, c1, A2, c2, A3, c3, A4, c4, h0, h1, h2, h3, h4⟩ := h
  have q := h0.four
  have HR := Aside.mk h3.2
  have HL := Aside.mk (show s.l.length ≤ 6000 by have := (store_ok hs).1; omega)
  have HK := Aside.mk (show ∀ v ∈ s.l, v.r.fields.length ≤ 6 ∧ v.r.refs.length ≤ 4 from fun v hv => by have := rec_ok (store_rec hs v hv); exact ⟨this.2.2.2.1, this.2.2.2.2.1⟩)
  clear h0 h1 h2 h3 h4 hs
  go_enter Try.func37, Try.ntmps37
  go_wp2_with fail
  refine (storeCopied A3 _ c3 s.l _ _ HR.out rfl HL.out HK.out).mono ?_
  rintro e w1 ⟨v, rfl, ho, hb⟩
  have HO := Aside.mk ho
  have HB := Aside.mk hb
  clear ho hb q
  go_wp2_with fail
  go_ret
  exact ⟨_, rfl, HO.out, HB.out⟩
end Go.Proofs.WK
