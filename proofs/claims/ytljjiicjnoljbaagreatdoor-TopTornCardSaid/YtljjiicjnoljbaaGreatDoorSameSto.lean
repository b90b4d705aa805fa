/-
  wyref.SameStore.
-/
import Derived.Test.YtljjiicjnoljbaaGreatDoorSame
import Derived.Test.YtljjiicjnoljbaaGreatDoorRec0
namespace Go.Proofs.WK
open Go.RowKit Rp
def verEq (a b : Ver) : Bool := (a.gone == b.gone) && recEq a.r b.r
theorem verEq_eq (a b : Ver) : verEq a b = decide (a = b) := by
  rw [Bool.eq_iff_iff, decide_eq_true_eq]
  unfold verEq
  rw [Bool.and_eq_true, recEq_iff]
  cases a; cases b
  simp [and_comm]
set_option maxHeartbeats 1600000 in
set_option maxRecDepth 100000 in
theorem sameVer (a b : Ver) (A1 A2 B1 B2 : Option Addr) (c1 c2 d1 d2 : Nat) (o1 o2 o3 o4 : Nat → Prop) (w : World) (h1 : fldR.Row w o1 A1 a.r.fields) (h2 : str.Row w o2 A2 a.r.refs) (h3 : fldR.Row w o3 B1 b.r.fields) (h4 : str.Row w o4 B2 b.r.refs) :
    Calls Tryz.prog 66 #[.agg #[.string a.r.id, .int .i64 a.r.cats, .slice A1 a.r.fields.length c1, .slice A2 a.r.refs.length c2, .bool a.gone], .agg #[.string b.r.id, .int .i64 b.r.cats, .slice B1 b.r.fields.length d1, .slice B2 b.r.refs.length d2, .bool b.gone]] w fun e w' =>
      e = .returned (.bool (verEq a b)) ∧ Below w.heap.size w w' := by
  have hb : Below w.heap.size w ((w.alloc (.cells #[.string a.r.id, .int .i64 a.r.cats, .slice A1 a.r.fields.length c1, .slice A2 a.r.refs.length c2, .bool a.gone] 63)).alloc (.cells #[.string b.r.id, .int .i64 b.r.cats, .slice B1 b.r.fields.length d1, .slice B2 b.r.refs.length d2, .bool b.gone] 63)) := ((Below.refl _ _).alloc (Nat.le_refl _) _).alloc (by simp) _
  have H1 := Aside.mk (h1.below hb)
  have H2 := Aside.mk (h2.below hb)
  have H3 := Aside.mk (h3.below hb)
  have H4 := Aside.mk (h4.below hb)
  have HB := Aside.mk hb
  clear h1 h2 h3 h4 hb
  cases e1 : (a.gone == b.gone)
  all_goals
    have HE := Aside.mk (show verEq a b = ((a.gone == b.gone) && recEq a.r b.r) from rfl)
    rw [e1] at HE
    go_enter Tryz.func66, Tryz.ntmps66
    go_wp2_with (go_at_call 67; refine (sameRecord a.r b.r _ _ _ _ _ _ _ _ _ _ _ _ _ H1.out H2.out H3.out H4.out).mono ?_; rintro e w1 ⟨rfl, hb⟩; have HB1 := Aside.mk (below_step HB.out hb); clear hb)
    go_ret
  · exact ⟨by rw [HE.out]; rfl, HB.out⟩
  · exact ⟨by rw [HE.out]; rfl, HB1.out⟩
set_option maxHeartbeats 1600000 in
set_option maxRecDepth 100000 in
theorem sameStore (A B : Option Addr) (n k c d : Nat) (l m : List Ver) (ok ok' : Nat → Prop) (w : World) (hl : verR.Row w ok A l) (hm : verR.Row w ok' B m) (hn : l.length = n) (hk : m.length = k) :
    Calls Tryz.prog 65 #[.slice A n c, .slice B k d, .func (.func 66) #[] #[]] w fun e w' => e = .returned (.bool (decide (l = m))) ∧ Below w.heap.size w w' := by
  subst hn hk
  have HL := Aside.mk hl
  have HM := Aside.mk hm
  have b1 := hl.1
  clear hl hm
  by_cases hlen : l.length = m.length
  · have hne : ((l.length : Int) != (m.length : Int)) = false := by simp [hlen]
    have HE := Aside.mk hlen
    clear hlen
    go_enter Tryz.func65, Tryz.ntmps65
    go_wp2_with fail
    go_loopw [17] (fun i wr => ∃ k : Nat, k ≤ l.length ∧ i = .int .i64 k ∧ Aside (l.take k = m.take k) ∧ Aside (Below w.heap.size w wr)) (fun i _ => l.length - (intOf i).toNat)
    case atStart => exact ⟨0, Nat.zero_le _, rfl, ⟨rfl⟩, ⟨Below.refl _ _⟩⟩
    case round =>
      obtain ⟨k, hk, rfl, HK, HB⟩ := hrel
      by_cases hlt : k < l.length
      · have hlt2 : k < m.length := by rw [← HE.out]; exact hlt
        obtain ⟨ad, A1, c1, A2, c2, rfl, z1, x0, x1, x2, x3, x4, _, _, r1, r2⟩ := ver_at (HL.out.below HB.out) hlt
        obtain ⟨ad2, B1, d1, B2, d2, rfl, z2, y0, y1, y2, y3, y4, _, _, s1, s2⟩ := ver_at (HM.out.below HB.out) hlt2
        have hal : Below wr.heap.size wr ((wr.alloc (.cells (verC l[k] A1 A2 c1 c2).toArray 63)).alloc (.cells (verC m[k] B1 B2 d1 d2).toArray 63)) := ((Below.refl _ _).alloc (Nat.le_refl _) _).alloc (by simp) _
        have HR1 := Aside.mk (r1.below hal)
        have HR2 := Aside.mk (r2.below hal)
        have HS1 := Aside.mk (s1.below hal)
        have HS2 := Aside.mk (s2.below hal)
        have HB1 := Aside.mk (below_step HB.out hal)
        have p0 : (0 : Int) ≤ (k : Int) := by omega
        have p1 : (k : Int) < (l.length : Int) := by omega
        have p2 : (k : Int) < (m.length : Int) := by omega
        have z3 : (ad2.add (k * 5)).block < wr.heap.size := by rw [add_block]; exact z2
        clear hal r1 r2 s1 s2
        cases he : verEq l[k] m[k] with
        | true =>
          have HK1 := Aside.mk (show l.take (k + 1) = m.take (k + 1) by
            rw [verEq_eq] at he
            rw [List.take_succ_eq_append_getElem hlt, List.take_succ_eq_append_getElem hlt2, HK.out, of_decide_eq_true he])
          go_wp2_with (go_at_call 66; refine (sameVer l[k] m[k] _ _ _ _ _ _ _ _ _ _ _ _ _ HR1.out HR2.out HS1.out HS2.out).mono ?_; rw [he]; rintro e w1 ⟨rfl, hb⟩; have HB2 := Aside.mk (below_step HB1.out hb); clear hb)
          refine ⟨⟨k + 1, by omega, by go_num, HK1, HB2⟩, by simp [intOf]; omega⟩
        | false =>
          have H := Aside.mk (show decide (l = m) = false from decide_eq_false fun e => by
            rw [verEq_eq] at he
            exact of_decide_eq_false he (by subst e; rfl))
          go_wp2_with (go_at_call 66; refine (sameVer l[k] m[k] _ _ _ _ _ _ _ _ _ _ _ _ _ HR1.out HR2.out HS1.out HS2.out).mono ?_; rw [he]; rintro e w1 ⟨rfl, hb⟩; have HB2 := Aside.mk (below_step HB1.out hb); clear hb)
          go_ret
          exact ⟨by rw [H.out]; rfl, HB2.out⟩
      · obtain rfl : k = l.length := by omega
        have H := Aside.mk (show decide (l = m) = true from decide_eq_true (by
          have h := HK.out
          rw [List.take_length, HE.out, List.take_length] at h
          exact h))
        go_wp2_with fail
        go_ret
        exact ⟨by rw [H.out]; rfl, HB.out⟩
  · have hne : ((l.length : Int) != (m.length : Int)) = true := by simp; omega
    have H := Aside.mk (show decide (l = m) = false from decide_eq_false fun e => hlen (by rw [e]))
    clear hlen
    go_enter Tryz.func65, Tryz.ntmps65
    go_wp2_with fail
    go_ret
    exact ⟨by rw [H.out]; rfl, Below.refl _ _⟩
theorem refSameStore (A B : Option Addr) (n k c d : Nat) (l m : List Ver) (ok ok' : Nat → Prop) (w : World) (hl : verR.Row w ok A l) (hm : verR.Row w ok' B m) (hn : l.length = n) (hk : m.length = k) :
    Calls Tryz.prog 17 #[.slice A n c, .slice B k d] w fun e w' => e = .returned (.bool (decide (l = m))) ∧ Below w.heap.size w w' := by
  go_enter Tryz.func17, Tryz.ntmps17
  go_wp2_with (go_at_call 65; refine (sameStore _ _ _ _ _ _ l m _ _ _ hl hm hn hk).mono ?_; rintro e w1 ⟨rfl, hb⟩)
  go_ret
  exact ⟨rfl, hb⟩
end Go.Proofs.WK
