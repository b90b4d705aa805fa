/-
  slices.Equal at rules and notes; wyref.SameTold.
-/
import Derived.Test.YtljjiicjnoljbaaGreatDoorSrvE
import Derived.Test.YtljjiicjnoljbaaGreatDoorSameSto
namespace Go.Proofs.WK
open Go.RowKit Rp
def rulEq (x y : Rul) : Bool := x.role == y.role && (x.why == y.why && (x.frm == y.frm && (x.til == y.til && (x.cats == y.cats && x.allow == y.allow))))
theorem rulEq_eq (x y : Rul) : rulEq x y = decide (x = y) := by
  unfold rulEq
  cases x; cases y
  rw [Bool.eq_iff_iff]
  simp
def nteEq (x y : Nte) : Bool := (x.who.role == y.who.role && (x.who.why == y.who.why && x.who.time == y.who.time)) && x.id.toList == y.id.toList
theorem nteEq_eq (x y : Nte) : nteEq x y = decide (x = y) := by
  unfold nteEq
  rw [toList_beq, Bool.eq_iff_iff]
  cases x with | mk a b => cases y with | mk c d => cases a; cases c; simp
theorem guardRul : Tryz.prog.eqGuardType Tryz.prog.depth 89 = false := by kernel_rfl
theorem guardNte : Tryz.prog.eqGuardType Tryz.prog.depth 116 = false := by kernel_rfl
set_option maxHeartbeats 1600000 in
theorem neqRul (a b c d e a' b' c' d' e' : Int) (f f' : Bool) (w : World) : (binOp .neq 89 (.agg #[.int .i64 a, .int .i64 b, .int .i64 c, .int .i64 d, .int .i64 e, .bool f]) (.agg #[.int .i64 a', .int .i64 b', .int .i64 c', .int .i64 d', .int .i64 e', .bool f'])).run Tryz.prog w =
    .ok (.bool (!(a == a' && (b == b' && (c == c' && (d == d' && (e == e' && f == f'))))))) w := by
  have u1 := Tryz.underlying3
  have a1 := Tryz.isAgg3
  have z1 := Tryz.sizeOf3
  have u2 := Tryz.underlying4
  have a2 := Tryz.isAgg4
  have z2 := Tryz.sizeOf4
  have hS : Tryz.prog.underlying 89 = some (.struct (Tryz.prog.fieldsOf 89)) := by kernel_rfl
  have hp : Tryz.prog.stoodInHeld 89 = false := by kernel_rfl
  rw [run_neq_struct, show (10000 : Nat) = 9999 + 1 from rfl, run_equalIn_agg w 9999 89 _ _ hS hp]
  simp only [Program.fieldsOf, Tryz.underlying89]
  go_simp
  cases h1 : (a == a') <;> cases h2 : (b == b') <;> cases h3 : (c == c') <;> cases h4 : (d == d') <;> cases h5 : (e == e') <;> cases h6 : (f == f') <;> simp_all
theorem neqNte (a b c a' b' c' : Int) (d d' : ByteArray) (w : World) : (binOp .neq 116 (.agg #[.int .i64 a, .int .i64 b, .int .i64 c, .string d]) (.agg #[.int .i64 a', .int .i64 b', .int .i64 c', .string d'])).run Tryz.prog w =
    .ok (.bool (!((a == a' && (b == b' && c == c')) && d.toList == d'.toList))) w := by
  have u1 := Tryz.underlying3
  have a1 := Tryz.isAgg3
  have z1 := Tryz.sizeOf3
  have u9 := Tryz.underlying9
  have a9 := Tryz.isAgg9
  have z9 := Tryz.sizeOf9
  have a3 := Tryz.isAgg31
  have z3 := Tryz.sizeOf31
  have hS : Tryz.prog.underlying 116 = some (.struct (Tryz.prog.fieldsOf 116)) := by kernel_rfl
  have hp : Tryz.prog.stoodInHeld 116 = false := by kernel_rfl
  have hS3 : Tryz.prog.underlying 31 = some (.struct (Tryz.prog.fieldsOf 31)) := by kernel_rfl
  have hp3 : Tryz.prog.stoodInHeld 31 = false := by kernel_rfl
  rw [run_neq_struct, show (10000 : Nat) = 9999 + 1 from rfl, run_equalIn_agg w 9999 116 _ _ hS hp]
  simp only [Program.fieldsOf, Tryz.underlying116]
  have hw : ∀ W, (Op.equalIn 9999 31 (.agg #[.int .i64 a, .int .i64 b, .int .i64 c]) (.agg #[.int .i64 a', .int .i64 b', .int .i64 c'])).run Tryz.prog W = .ok (a == a' && (b == b' && c == c')) W := by
    intro W
    rw [show (9999 : Nat) = 9998 + 1 from rfl, run_equalIn_agg W 9998 31 _ _ hS3 hp3]
    simp only [Program.fieldsOf, Tryz.underlying31]
    go_simp
    cases h1 : (a == a') <;> cases h2 : (b == b') <;> cases h3 : (c == c') <;> simp_all
  go_simp
  by_cases h1 : a = a' <;> by_cases h2 : b = b' <;> by_cases h3 : c = c' <;> by_cases h4 : d.toList = d'.toList <;> simp [h1, h2, h3, h4]
theorem nte_at {w : World} {ok : Nat → Prop} {A : Option Addr} {xs : List Nte} (h : nteR.Row w ok A xs) {k : Nat} (hk : k < xs.length) : ∃ ad, A = some ad ∧ ad.block < w.heap.size ∧
    w.cell? (ad.add (k * 4)) = some (.int .i64 xs[k].who.role) ∧ w.cell? ⟨(ad.add (k * 4)).block, (ad.add (k * 4)).off + 1, none⟩ = some (.int .i64 xs[k].who.why) ∧
    w.cell? ⟨(ad.add (k * 4)).block, (ad.add (k * 4)).off + 2, none⟩ = some (.int .i64 xs[k].who.time) ∧ w.cell? ⟨(ad.add (k * 4)).block, (ad.add (k * 4)).off + 3, none⟩ = some (.string xs[k].id) := by
  obtain ⟨ad, c, e, hb, _, hK, hc0⟩ := h.at_ hk
  have hc : ∀ i u, c[i]? = some u → w.cell? (ad.add (k * 4 + i)) = some u := hc0
  obtain rfl := nteK.1 hK
  exact ⟨ad, e, hb, hc 0 _ rfl, by rw [← add_field _ _ 1 (by omega)]; exact hc 1 _ rfl, by rw [← add_field _ _ 2 (by omega)]; exact hc 2 _ rfl, by rw [← add_field _ _ 3 (by omega)]; exact hc 3 _ rfl⟩
set_option maxHeartbeats 1600000 in
set_option maxRecDepth 100000 in
theorem equalR (A B : Option Addr) (c d : Nat) (l m : List Rul) (ok ok' : Nat → Prop) (w : World) (hl : rulR.Row w ok A l) (hm : rulR.Row w ok' B m) :
    Calls Tryz.prog 38 #[.slice A l.length c, .slice B m.length d] w fun e w' => e = .returned (.bool (decide (l = m))) ∧ Drawn w w' := by
  have HL := Aside.mk hl
  have HM := Aside.mk hm
  have b1 := hl.1
  clear hl hm
  by_cases hlen : l.length = m.length
  · have hne : ((l.length : Int) != (m.length : Int)) = false := by simp [hlen]
    have HE := Aside.mk hlen
    clear hlen
    have hnq := neqRul
    have hgd := guardRul
    go_enter Tryz.func38, Tryz.ntmps38
    go_wp2
    go_loopw [13] (fun i wr => ∃ k : Nat, k ≤ l.length ∧ i = .int .i64 k ∧ Aside (l.take k = m.take k) ∧ Aside (Drawn w wr)) (fun i _ => l.length - (intOf i).toNat)
    case atStart => exact ⟨0, Nat.zero_le _, rfl, ⟨rfl⟩, ⟨Drawn.refl _⟩⟩
    case round =>
      obtain ⟨k, hk, rfl, HK, HD⟩ := hrel
      by_cases hlt : k < l.length
      · have hlt2 : k < m.length := by rw [← HE.out]; exact hlt
        obtain ⟨ad, rfl, _, x0, x1, x2, x3, x4, x5⟩ := rul_at (HL.out.below HD.out.below) hlt
        obtain ⟨ad2, rfl, _, y0, y1, y2, y3, y4, y5⟩ := rul_at (HM.out.below HD.out.below) hlt2
        have p0 : (0 : Int) ≤ (k : Int) := by omega
        have p1 : (k : Int) < (l.length : Int) := by omega
        have p2 : (k : Int) < (m.length : Int) := by omega
        cases he : rulEq l[k] m[k] with
        | true =>
          have HK1 := Aside.mk (show l.take (k + 1) = m.take (k + 1) by
            rw [rulEq_eq] at he
            rw [List.take_succ_eq_append_getElem hlt, List.take_succ_eq_append_getElem hlt2, HK.out, of_decide_eq_true he])
          unfold rulEq at he
          go_wp2
          go_quiet (fail)
          go_wp2
          go_roundw
          case rel => exact ⟨k + 1, by omega, by go_num, HK1, ⟨HD.out.step _⟩⟩
          case measure => simp [intOf]; omega
        | false =>
          have H := Aside.mk (show decide (l = m) = false from decide_eq_false fun e => by
            rw [rulEq_eq] at he
            exact of_decide_eq_false he (by subst e; rfl))
          unfold rulEq at he
          go_wp2
          go_quiet (fail)
          go_wp2
          go_ret
          exact ⟨by rw [H.out]; rfl, HD.out.step _⟩
      · obtain rfl : k = l.length := by omega
        have H := Aside.mk (show decide (l = m) = true from decide_eq_true (by
          have h := HK.out
          rw [List.take_length, HE.out, List.take_length] at h
          exact h))
        go_wp2
        go_ret
        exact ⟨by rw [H.out]; rfl, HD.out⟩
  · have hne : ((l.length : Int) != (m.length : Int)) = true := by simp; omega
    have H := Aside.mk (show decide (l = m) = false from decide_eq_false fun e => hlen (by rw [e]))
    clear hlen
    go_enter Tryz.func38, Tryz.ntmps38
    go_wp2
    go_ret
    exact ⟨by rw [H.out]; rfl, Drawn.refl _⟩
set_option maxHeartbeats 1600000 in
set_option maxRecDepth 100000 in
theorem equalN (A B : Option Addr) (c d : Nat) (l m : List Nte) (ok ok' : Nat → Prop) (w : World) (hl : nteR.Row w ok A l) (hm : nteR.Row w ok' B m) :
    Calls Tryz.prog 98 #[.slice A l.length c, .slice B m.length d] w fun e w' => e = .returned (.bool (decide (l = m))) ∧ Drawn w w' := by
  have HL := Aside.mk hl
  have HM := Aside.mk hm
  have b1 := hl.1
  clear hl hm
  by_cases hlen : l.length = m.length
  · have hne : ((l.length : Int) != (m.length : Int)) = false := by simp [hlen]
    have HE := Aside.mk hlen
    clear hlen
    have hnq := neqNte
    have hgd := guardNte
    go_enter Tryz.func98, Tryz.ntmps98
    go_wp2
    go_loopw [13] (fun i wr => ∃ k : Nat, k ≤ l.length ∧ i = .int .i64 k ∧ Aside (l.take k = m.take k) ∧ Aside (Drawn w wr)) (fun i _ => l.length - (intOf i).toNat)
    case atStart => exact ⟨0, Nat.zero_le _, rfl, ⟨rfl⟩, ⟨Drawn.refl _⟩⟩
    case round =>
      obtain ⟨k, hk, rfl, HK, HD⟩ := hrel
      by_cases hlt : k < l.length
      · have hlt2 : k < m.length := by rw [← HE.out]; exact hlt
        obtain ⟨ad, rfl, _, x0, x1, x2, x3⟩ := nte_at (HL.out.below HD.out.below) hlt
        obtain ⟨ad2, rfl, _, y0, y1, y2, y3⟩ := nte_at (HM.out.below HD.out.below) hlt2
        have p0 : (0 : Int) ≤ (k : Int) := by omega
        have p1 : (k : Int) < (l.length : Int) := by omega
        have p2 : (k : Int) < (m.length : Int) := by omega
        cases he : nteEq l[k] m[k] with
        | true =>
          have HK1 := Aside.mk (show l.take (k + 1) = m.take (k + 1) by
            rw [nteEq_eq] at he
            rw [List.take_succ_eq_append_getElem hlt, List.take_succ_eq_append_getElem hlt2, HK.out, of_decide_eq_true he])
          unfold nteEq at he
          go_wp2
          go_quiet (fail)
          go_wp2
          go_roundw
          case rel => exact ⟨k + 1, by omega, by go_num, HK1, ⟨HD.out.step _⟩⟩
          case measure => simp [intOf]; omega
        | false =>
          have H := Aside.mk (show decide (l = m) = false from decide_eq_false fun e => by
            rw [nteEq_eq] at he
            exact of_decide_eq_false he (by subst e; rfl))
          unfold nteEq at he
          go_wp2
          go_quiet (fail)
          go_wp2
          go_ret
          exact ⟨by rw [H.out]; rfl, HD.out.step _⟩
      · obtain rfl : k = l.length := by omega
        have H := Aside.mk (show decide (l = m) = true from decide_eq_true (by
          have h := HK.out
          rw [List.take_length, HE.out, List.take_length] at h
          exact h))
        go_wp2
        go_ret
        exact ⟨by rw [H.out]; rfl, HD.out⟩
  · have hne : ((l.length : Int) != (m.length : Int)) = true := by simp; omega
    have H := Aside.mk (show decide (l = m) = false from decide_eq_false fun e => hlen (by rw [e]))
    clear hlen
    go_enter Tryz.func98, Tryz.ntmps98
    go_wp2
    go_ret
    exact ⟨by rw [H.out]; rfl, Drawn.refl _⟩
theorem four_told {w : World} {n : Nat} {a b c d : Value} (h : Bk w n [a, b, c, d]) : w.cell? ⟨n, 0, none⟩ = some a ∧ w.cell? ⟨n, 1, none⟩ = some b ∧ w.cell? ⟨n, 2, none⟩ = some c ∧ w.cell? ⟨n, 3, none⟩ = some d := ⟨h.cell 0, h.cell 1, h.cell 2, h.cell 3⟩
/-- What is told is read. -/
structure TX (A1 A2 A3 : Option Addr) (t : Told) (w : World) : Prop where
  v : verR.Row w (fun _ => True) A1 t.vers
  i : str.Row w (fun _ => True) A2 t.ids
  n : nteR.Row w (fun _ => True) A3 t.notes
theorem TX.below {A1 A2 A3 : Option Addr} {t : Told} {w w' : World} (h : TX A1 A2 A3 t w) (hb : Below w.heap.size w w') : TX A1 A2 A3 t w' := ⟨h.v.below hb, h.i.below hb, h.n.below hb⟩
def toldC (t : Told) (A1 : Option Addr) (c1 : Nat) (A2 : Option Addr) (c2 : Nat) (A3 : Option Addr) (c3 : Nat) : List Value := [.int .i64 t.code, .slice A1 t.vers.length c1, .slice A2 t.ids.length c2, .slice A3 t.notes.length c3]
set_option maxHeartbeats 4000000 in
set_option maxRecDepth 100000 in
theorem sameTold (t : Told) (A1 A2 A3 B1 B2 B3 : Option Addr) (c1 c2 c3 d1 d2 d3 : Nat) (w : World) (ha : TX A1 A2 A3 t w) (hb : TX B1 B2 B3 t w) :
    Calls Tryz.prog 36 #[.agg (toldC t A1 c1 A2 c2 A3 c3).toArray, .agg (toldC t B1 d1 B2 d2 B3 d3).toArray] w fun e w' => e = .returned (.bool true) ∧ Below w.heap.size w w' := by
  have hal : Below w.heap.size w ((w.alloc (.cells (toldC t A1 c1 A2 c2 A3 c3).toArray 45)).alloc (.cells (toldC t B1 d1 B2 d2 B3 d3).toArray 45)) := ((Below.refl _ _).alloc (Nat.le_refl _) _).alloc (by simp) _
  have b1 := (Bk.made w (toldC t A1 c1 A2 c2 A3 c3) 45).alloc (.cells (toldC t B1 d1 B2 d2 B3 d3).toArray 45)
  have b2 := Bk.made (w.alloc (.cells (toldC t A1 c1 A2 c2 A3 c3).toArray 45)) (toldC t B1 d1 B2 d2 B3 d3) 45
  rw [show (w.alloc (.cells (toldC t A1 c1 A2 c2 A3 c3).toArray 45)).heap.size = w.heap.size + 1 by simp] at b2
  have HX := Aside.mk (And.intro b1 (And.intro b2 (And.intro (ha.below hal) (And.intro (hb.below hal) hal))))
  clear ha hb hal b1 b2
  unfold toldC at *
  go_enter Tryz.func36, Tryz.ntmps36
  go_upto_region 1 with fail
  generalize hw0 : (w.alloc _).alloc _ = w0 at HX ⊢
  clear hw0
  have q1 := four_told HX.out.1
  have q2 := four_told HX.out.2.1
  go_wp2_with fail
  refine (refSameStore A1 B1 _ _ c1 d1 t.vers t.vers _ _ _ HX.out.2.2.1.v HX.out.2.2.2.1.v rfl rfl).mono ?_
  rw [decide_eq_true rfl]
  rintro e w1 ⟨rfl, hb⟩
  have HX1 := Aside.mk (And.intro (HX.out.1.below hb) (And.intro (HX.out.2.1.below hb) (And.intro (HX.out.2.2.1.below hb) (And.intro (HX.out.2.2.2.1.below hb) (below_step HX.out.2.2.2.2 hb)))))
  clear hb q1 q2 HX
  have q1 := four_told HX1.out.1
  have q2 := four_told HX1.out.2.1
  go_wp2_with fail
  refine (equalSt A2 B2 c2 d2 t.ids t.ids _ _ _ HX1.out.2.2.1.i HX1.out.2.2.2.1.i).mono ?_
  rw [decide_eq_true rfl]
  rintro e w2 ⟨rfl, hd⟩
  have hb := hd.below
  have HX2 := Aside.mk (And.intro (HX1.out.1.below hb) (And.intro (HX1.out.2.1.below hb) (And.intro (HX1.out.2.2.1.below hb) (And.intro (HX1.out.2.2.2.1.below hb) (below_step HX1.out.2.2.2.2 hb)))))
  clear hb hd q1 q2 HX1
  have q1 := four_told HX2.out.1
  have q2 := four_told HX2.out.2.1
  go_wp2_with fail
  refine (equalN A3 B3 c3 d3 t.notes t.notes _ _ _ HX2.out.2.2.1.n HX2.out.2.2.2.1.n).mono ?_
  rw [decide_eq_true rfl]
  rintro e w3 ⟨rfl, hd⟩
  have HB := Aside.mk (below_step HX2.out.2.2.2.2 hd.below)
  clear hd q1 q2 HX2
  go_wp2_with fail
  go_ret
  exact ⟨rfl, HB.out⟩
end Go.Proofs.WK
