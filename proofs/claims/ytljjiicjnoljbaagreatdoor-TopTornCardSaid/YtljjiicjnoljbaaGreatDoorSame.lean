/-
  slices.Equal at fields and texts; wyref.SameRecord, SameStore.
-/
import Derived.Test.YtljjiicjnoljbaaGreatDoorDat
import Derived.Test.YtljjiicjnoljbaaGreatDoorWk0
import Derived.Laws.StructEq
import Derived.Deep.QuietTactic
import Derived.BigQuiet
namespace Go.Proofs.WK
open Go.RowKit Rp
def fldEq (x y : Fld) : Bool := x.key.toList == y.key.toList && x.val.toList == y.val.toList
theorem fldEq_eq (x y : Fld) : fldEq x y = decide (x = y) := by
  unfold fldEq
  rw [toList_beq, toList_beq]
  cases x; cases y
  simp
theorem neqFld (a b c d : ByteArray) (w : World) : (binOp .neq 38 (.agg #[.string a, .string b]) (.agg #[.string c, .string d])).run Tryz.prog w = .ok (.bool (!(a.toList == c.toList && b.toList == d.toList))) w := by
  have u9 := Tryz.underlying9
  have a9 := Tryz.isAgg9
  have z9 := Tryz.sizeOf9
  have hS : Tryz.prog.underlying 38 = some (.struct (Tryz.prog.fieldsOf 38)) := by kernel_rfl
  have hp : Tryz.prog.stoodInHeld 38 = false := by kernel_rfl
  rw [run_neq_struct, show (10000 : Nat) = 9999 + 1 from rfl, run_equalIn_agg w 9999 38 _ _ hS hp]
  simp only [Program.fieldsOf, Tryz.underlying38]
  go_simp
  cases h1 : (a.toList == c.toList) <;> cases h2 : (b.toList == d.toList) <;> simp_all
theorem eqlFld (a b c d : ByteArray) (w : World) : (binOp .eql 38 (.agg #[.string a, .string b]) (.agg #[.string c, .string d])).run Tryz.prog w = .ok (.bool (a.toList == c.toList && b.toList == d.toList)) w := by
  have u9 := Tryz.underlying9
  have a9 := Tryz.isAgg9
  have z9 := Tryz.sizeOf9
  have hS : Tryz.prog.underlying 38 = some (.struct (Tryz.prog.fieldsOf 38)) := by kernel_rfl
  have hp : Tryz.prog.stoodInHeld 38 = false := by kernel_rfl
  rw [run_eql_struct, show (10000 : Nat) = 9999 + 1 from rfl, run_equalIn_agg w 9999 38 _ _ hS hp]
  simp only [Program.fieldsOf, Tryz.underlying38]
  go_simp
  cases h1 : (a.toList == c.toList) <;> cases h2 : (b.toList == d.toList) <;> simp_all
theorem guardFld : Tryz.prog.eqGuardType Tryz.prog.depth 38 = false := by kernel_rfl
theorem eqS_b {a b : ByteArray} (h : a = b) : (a.toList == b.toList) = true := by rw [h]; simp
theorem eqS_f {a b : ByteArray} (h : ¬ a = b) : (a.toList == b.toList) = false := by rw [toList_beq]; simp [h]
set_option maxHeartbeats 1600000 in
set_option maxRecDepth 100000 in
theorem equalF (A B : Option Addr) (c d : Nat) (l m : List Fld) (ok ok' : Nat → Prop) (w : World) (hl : fldR.Row w ok A l) (hm : fldR.Row w ok' B m) :
    Calls Tryz.prog 146 #[.slice A l.length c, .slice B m.length d] w fun e w' => e = .returned (.bool (decide (l = m))) ∧ Drawn w w' := by
  have HL := Aside.mk hl
  have HM := Aside.mk hm
  have b1 := hl.1
  clear hl hm
  by_cases hlen : l.length = m.length
  · have hne : ((l.length : Int) != (m.length : Int)) = false := by simp [hlen]
    have HE := Aside.mk hlen
    clear hlen
    have hnq := neqFld
    have hgd := guardFld
    go_enter Tryz.func146, Tryz.ntmps146
    go_wp2
    go_loopw [13] (fun i wr => ∃ k : Nat, k ≤ l.length ∧ i = .int .i64 k ∧ Aside (l.take k = m.take k) ∧ Aside (Drawn w wr)) (fun i _ => l.length - (intOf i).toNat)
    case atStart => exact ⟨0, Nat.zero_le _, rfl, ⟨rfl⟩, ⟨Drawn.refl _⟩⟩
    case round =>
      obtain ⟨k, hk, rfl, HK, HD⟩ := hrel
      by_cases hlt : k < l.length
      · have hlt2 : k < m.length := by rw [← HE.out]; exact hlt
        obtain ⟨ad, rfl, _, x0, x1⟩ := fld_at (HL.out.below HD.out.below) hlt
        obtain ⟨ad2, rfl, _, y0, y1⟩ := fld_at (HM.out.below HD.out.below) hlt2
        have p0 : (0 : Int) ≤ (k : Int) := by omega
        have p1 : (k : Int) < (l.length : Int) := by omega
        have p2 : (k : Int) < (m.length : Int) := by omega
        cases he : fldEq l[k] m[k] with
        | true =>
          have HK1 := Aside.mk (show l.take (k + 1) = m.take (k + 1) by
            rw [fldEq_eq] at he
            rw [List.take_succ_eq_append_getElem hlt, List.take_succ_eq_append_getElem hlt2, HK.out, of_decide_eq_true he])
          unfold fldEq at he
          go_wp2
          go_quiet (fail)
          go_wp2
          go_roundw
          case rel => exact ⟨k + 1, by omega, by go_num, HK1, ⟨HD.out.step _⟩⟩
          case measure => simp [intOf]; omega
        | false =>
          have H := Aside.mk (show decide (l = m) = false from decide_eq_false fun e => by
            rw [fldEq_eq] at he
            exact of_decide_eq_false he (by subst e; rfl))
          unfold fldEq at he
          go_wp2
          go_quiet (fail)
          go_wp2
          go_ret
          exact ⟨by rw [H.out]; rfl, HD.out.step _⟩
      · obtain rfl : k = l.length := by omega
        have H := Aside.mk (show decide (l = m) = true from decide_eq_true (by
          have h := HK.out
          rw [List.take_length, HE.out, List.take_length] at h
          exact h))
        go_wp2
        go_ret
        exact ⟨by rw [H.out]; rfl, HD.out⟩
  · have hne : ((l.length : Int) != (m.length : Int)) = true := by simp; omega
    have H := Aside.mk (show decide (l = m) = false from decide_eq_false fun e => hlen (by rw [e]))
    clear hlen
    go_enter Tryz.func146, Tryz.ntmps146
    go_wp2
    go_ret
    exact ⟨by rw [H.out]; rfl, Drawn.refl _⟩
set_option maxHeartbeats 800000 in
set_option maxRecDepth 100000 in
theorem equalSt (A B : Option Addr) (c d : Nat) (l m : List ByteArray) (ok ok' : Nat → Prop) (w : World) (hl : str.Row w ok A l) (hm : str.Row w ok' B m) :
    Calls Tryz.prog 29 #[.slice A l.length c, .slice B m.length d] w fun e w' => e = .returned (.bool (decide (l = m))) ∧ Drawn w w' := by
  have HL := Aside.mk hl
  have HM := Aside.mk hm
  have b1 := hl.1
  clear hl hm
  by_cases hlen : l.length = m.length
  · have hne : ((l.length : Int) != (m.length : Int)) = false := by simp [hlen]
    have HE := Aside.mk hlen
    clear hlen
    go_enter Tryz.func29, Tryz.ntmps29
    go_wp2
    go_loopw [13] (fun i wr => ∃ k : Nat, k ≤ l.length ∧ i = .int .i64 k ∧ Aside (l.take k = m.take k) ∧ Aside (Drawn w wr)) (fun i _ => l.length - (intOf i).toNat)
    case atStart => exact ⟨0, Nat.zero_le _, rfl, ⟨rfl⟩, ⟨Drawn.refl _⟩⟩
    case round =>
      obtain ⟨k, hk, rfl, HK, HD⟩ := hrel
      by_cases hlt : k < l.length
      · have hlt2 : k < m.length := by rw [← HE.out]; exact hlt
        obtain ⟨ad, rfl, _, h1⟩ := str_at (HL.out.below HD.out.below) hlt
        obtain ⟨ad2, rfl, _, h2⟩ := str_at (HM.out.below HD.out.below) hlt2
        have p0 : (0 : Int) ≤ (k : Int) := by omega
        have p1 : (k : Int) < (l.length : Int) := by omega
        have p2 : (k : Int) < (m.length : Int) := by omega
        by_cases he : l[k] = m[k]
        · have hb := eqS_b he
          have HK1 := Aside.mk (show l.take (k + 1) = m.take (k + 1) by rw [List.take_succ_eq_append_getElem hlt, List.take_succ_eq_append_getElem hlt2, HK.out, he])
          clear he
          go_wp2
          go_quiet (fail)
          go_wp2
          go_roundw
          case rel => exact ⟨k + 1, by omega, by go_num, HK1, ⟨HD.out.step _⟩⟩
          case measure => simp [intOf]; omega
        · have hb := eqS_f he
          have H := Aside.mk (show decide (l = m) = false from decide_eq_false fun e => he (by subst e; rfl))
          clear he
          go_wp2
          go_quiet (fail)
          go_wp2
          go_ret
          exact ⟨by rw [H.out]; rfl, HD.out.step _⟩
      · obtain rfl : k = l.length := by omega
        have H := Aside.mk (show decide (l = m) = true from decide_eq_true (by
          have h := HK.out
          rw [List.take_length, HE.out, List.take_length] at h
          exact h))
        go_wp2
        go_ret
        exact ⟨by rw [H.out]; rfl, HD.out⟩
  · have hne : ((l.length : Int) != (m.length : Int)) = true := by simp; omega
    have H := Aside.mk (show decide (l = m) = false from decide_eq_false fun e => hlen (by rw [e]))
    clear hlen
    go_enter Tryz.func29, Tryz.ntmps29
    go_wp2
    go_ret
    exact ⟨by rw [H.out]; rfl, Drawn.refl _⟩
/-- Is the same said of both? -/
def recEq (a b : Rec) : Bool := decide (a.id = b.id) && decide (a.cats = b.cats) && decide (a.fields = b.fields) && decide (a.refs = b.refs)
theorem recEq_iff {a b : Rec} : recEq a b = true ↔ a = b := by
  cases a; cases b
  simp [recEq, and_assoc]
set_option maxHeartbeats 1600000 in
set_option maxRecDepth 100000 in
theorem sameRecord (a b : Rec) (A1 A2 B1 B2 : Option Addr) (c1 c2 d1 d2 : Nat) (o1 o2 o3 o4 : Nat → Prop) (w : World) (h1 : fldR.Row w o1 A1 a.fields) (h2 : str.Row w o2 A2 a.refs) (h3 : fldR.Row w o3 B1 b.fields) (h4 : str.Row w o4 B2 b.refs) :
    Calls Tryz.prog 67 #[.agg #[.string a.id, .int .i64 a.cats, .slice A1 a.fields.length c1, .slice A2 a.refs.length c2], .agg #[.string b.id, .int .i64 b.cats, .slice B1 b.fields.length d1, .slice B2 b.refs.length d2]] w fun e w' =>
      e = .returned (.bool (recEq a b)) ∧ Below w.heap.size w w' := by
  have hb : Below w.heap.size w ((w.alloc (.cells #[.string a.id, .int .i64 a.cats, .slice A1 a.fields.length c1, .slice A2 a.refs.length c2] 36)).alloc (.cells #[.string b.id, .int .i64 b.cats, .slice B1 b.fields.length d1, .slice B2 b.refs.length d2] 36)) := ((Below.refl _ _).alloc (Nat.le_refl _) _).alloc (by simp) _
  have H1 := Aside.mk (h1.below hb)
  have H2 := Aside.mk (h2.below hb)
  have H3 := Aside.mk (h3.below hb)
  have H4 := Aside.mk (h4.below hb)
  have HB := Aside.mk hb
  clear h1 h2 h3 h4 hb
  by_cases e1 : a.id = b.id
  · have b1 := eqS_b e1
    by_cases e2 : a.cats = b.cats
    · have b2 : (a.cats == b.cats) = true := by simp [e2]
      have HE := Aside.mk (show recEq a b = (decide (a.fields = b.fields) && decide (a.refs = b.refs)) by unfold recEq; rw [decide_eq_true e1, decide_eq_true e2]; rfl)
      clear e1 e2
      cases e3 : decide (a.fields = b.fields)
      all_goals
        rw [e3] at HE
        go_enter Tryz.func67, Tryz.ntmps67
        go_wp2_with (first
          | (go_at_call 146; refine (equalF _ _ _ _ _ _ _ _ _ H1.out H3.out).mono ?_; rw [e3]; rintro e w1 ⟨rfl, hd⟩
             have HB1 := Aside.mk (below_step HB.out hd.below); have q1 := bcell hd.below; have HX2 := Aside.mk (H2.out.below hd.below); have HX4 := Aside.mk (H4.out.below hd.below); clear hd)
          | (go_at_call 29; refine (equalSt _ _ _ _ _ _ _ _ _ HX2.out HX4.out).mono ?_; rintro e w2 ⟨rfl, hd⟩
             have HB2 := Aside.mk (below_step HB1.out hd.below); clear hd))
      · go_ret
        exact ⟨by rw [HE.out]; rfl, HB1.out⟩
      · go_ret
        exact ⟨by rw [HE.out]; rfl, HB2.out⟩
    · have b2 : (a.cats == b.cats) = false := by simp [e2]
      have HE := Aside.mk (show recEq a b = false by unfold recEq; rw [decide_eq_false e2, Bool.and_false]; rfl)
      clear e1 e2
      go_enter Tryz.func67, Tryz.ntmps67
      go_wp2_with fail
      go_ret
      exact ⟨by rw [HE.out]; rfl, HB.out⟩
  · have b1 := eqS_f e1
    have HE := Aside.mk (show recEq a b = false by unfold recEq; rw [decide_eq_false e1]; rfl)
    clear e1
    go_enter Tryz.func67, Tryz.ntmps67
    go_wp2_with fail
    go_ret
    exact ⟨by rw [HE.out]; rfl, HB.out⟩
end Go.Proofs.WK
