/-
  wyref.SameOp, slices.EqualFunc with it: of what is the same.
-/
import Derived.Test.YtljjiicjnoljbaaGreatDoorSame
import Derived.Test.YtljjiicjnoljbaaGreatDoorParse
namespace Go.Proofs.WK
open Go.RowKit Rp
def rulEqO (x y : Rul) : Bool := x.role == y.role && (x.why == y.why && (x.frm == y.frm && (x.til == y.til && (x.cats == y.cats && x.allow == y.allow))))
theorem rulEq_eqO (x y : Rul) : rulEqO x y = decide (x = y) := by
  unfold rulEqO
  cases x; cases y
  rw [Bool.eq_iff_iff]
  simp
theorem guardRulO : Tryz.prog.eqGuardType Tryz.prog.depth 89 = false := by kernel_rfl
set_option maxHeartbeats 1600000 in
theorem neqRulO (a b c d e a' b' c' d' e' : Int) (f f' : Bool) (w : World) : (binOp .neq 89 (.agg #[.int .i64 a, .int .i64 b, .int .i64 c, .int .i64 d, .int .i64 e, .bool f]) (.agg #[.int .i64 a', .int .i64 b', .int .i64 c', .int .i64 d', .int .i64 e', .bool f'])).run Tryz.prog w =
    .ok (.bool (!(a == a' && (b == b' && (c == c' && (d == d' && (e == e' && f == f'))))))) w := by
  have u1 := Tryz.underlying3
  have a1 := Tryz.isAgg3
  have z1 := Tryz.sizeOf3
  have u2 := Tryz.underlying4
  have a2 := Tryz.isAgg4
  have z2 := Tryz.sizeOf4
  have hS : Tryz.prog.underlying 89 = some (.struct (Tryz.prog.fieldsOf 89)) := by kernel_rfl
  have hp : Tryz.prog.stoodInHeld 89 = false := by kernel_rfl
  rw [run_neq_struct, show (10000 : Nat) = 9999 + 1 from rfl, run_equalIn_agg w 9999 89 _ _ hS hp]
  simp only [Program.fieldsOf, Tryz.underlying89]
  go_simp
  cases h1 : (a == a') <;> cases h2 : (b == b') <;> cases h3 : (c == c') <;> cases h4 : (d == d') <;> cases h5 : (e == e') <;> cases h6 : (f == f') <;> simp_all
set_option maxHeartbeats 1600000 in
set_option maxRecDepth 100000 in
theorem equalRO (A B : Option Addr) (c d : Nat) (l m : List Rul) (ok ok' : Nat → Prop) (w : World) (hl : rulR.Row w ok A l) (hm : rulR.Row w ok' B m) :
    Calls Tryz.prog 38 #[.slice A l.length c, .slice B m.length d] w fun e w' => e = .returned (.bool (decide (l = m))) ∧ Drawn w w' := by
  have HL := Aside.mk hl
  have HM := Aside.mk hm
  have b1 := hl.1
  clear hl hm
  by_cases hlen : l.length = m.length
  · have hne : ((l.length : Int) != (m.length : Int)) = false := by simp [hlen]
    have HE := Aside.mk hlen
    clear hlen
    have hnq := neqRulO
    have hgd := guardRulO
    go_enter Tryz.func38, Tryz.ntmps38
    go_wp2
    go_loopw [13] (fun i wr => ∃ k : Nat, k ≤ l.length ∧ i = .int .i64 k ∧ Aside (l.take k = m.take k) ∧ Aside (Drawn w wr)) (fun i _ => l.length - (intOf i).toNat)
    case atStart => exact ⟨0, Nat.zero_le _, rfl, ⟨rfl⟩, ⟨Drawn.refl _⟩⟩
    case round =>
      obtain ⟨k, hk, rfl, HK, HD⟩ := hrel
      by_cases hlt : k < l.length
      · have hlt2 : k < m.length := by rw [← HE.out]; exact hlt
        obtain ⟨ad, rfl, _, x0, x1, x2, x3, x4, x5⟩ := rul_at (HL.out.below HD.out.below) hlt
        obtain ⟨ad2, rfl, _, y0, y1, y2, y3, y4, y5⟩ := rul_at (HM.out.below HD.out.below) hlt2
        have p0 : (0 : Int) ≤ (k : Int) := by omega
        have p1 : (k : Int) < (l.length : Int) := by omega
        have p2 : (k : Int) < (m.length : Int) := by omega
        cases he : rulEqO l[k] m[k] with
        | true =>
          have HK1 := Aside.mk (show l.take (k + 1) = m.take (k + 1) by
            rw [rulEq_eqO] at he
            rw [List.take_succ_eq_append_getElem hlt, List.take_succ_eq_append_getElem hlt2, HK.out, of_decide_eq_true he])
          unfold rulEqO at he
          go_wp2
          go_quiet (fail)
          go_wp2
          go_roundw
          case rel => exact ⟨k + 1, by omega, by go_num, HK1, ⟨HD.out.step _⟩⟩
          case measure => simp [intOf]; omega
        | false =>
          have H := Aside.mk (show decide (l = m) = false from decide_eq_false fun e => by
            rw [rulEq_eqO] at he
            exact of_decide_eq_false he (by subst e; rfl))
          unfold rulEqO at he
          go_wp2
          go_quiet (fail)
          go_wp2
          go_ret
          exact ⟨by rw [H.out]; rfl, HD.out.step _⟩
      · obtain rfl : k = l.length := by omega
        have H := Aside.mk (show decide (l = m) = true from decide_eq_true (by
          have h := HK.out
          rw [List.take_length, HE.out, List.take_length] at h
          exact h))
        go_wp2
        go_ret
        exact ⟨by rw [H.out]; rfl, HD.out⟩
  · have hne : ((l.length : Int) != (m.length : Int)) = true := by simp; omega
    have H := Aside.mk (show decide (l = m) = false from decide_eq_false fun e => hlen (by rw [e]))
    clear hlen
    go_enter Tryz.func38, Tryz.ntmps38
    go_wp2
    go_ret
    exact ⟨by rw [H.out]; rfl, Drawn.refl _⟩
/-- What stands at a place of a list of what is said. -/
theorem opAt {w : World} {ok : Nat → Prop} {A : Option Addr} {xs : List OpV} (h : opRp.Row w ok A xs) {k : Nat} (hk : k < xs.length) : ∃ ad B1 e1 B2 e2 B3 e3, A = some ad ∧ ad.block < w.heap.size ∧ ok ad.block ∧
    (w.cell? (ad.add (k * 12)) = some (.int .i64 xs[k].kind) ∧ w.cell? ⟨(ad.add (k * 12)).block, (ad.add (k * 12)).off + 1, none⟩ = some (.int .i64 xs[k].who.role) ∧ w.cell? ⟨(ad.add (k * 12)).block, (ad.add (k * 12)).off + 2, none⟩ = some (.int .i64 xs[k].who.why) ∧
    w.cell? ⟨(ad.add (k * 12)).block, (ad.add (k * 12)).off + 3, none⟩ = some (.int .i64 xs[k].who.time) ∧ w.cell? ⟨(ad.add (k * 12)).block, (ad.add (k * 12)).off + 4, none⟩ = some (.slice B1 xs[k].rules.length e1) ∧
    w.cell? ⟨(ad.add (k * 12)).block, (ad.add (k * 12)).off + 5, none⟩ = some (.string xs[k].r.id) ∧ w.cell? ⟨(ad.add (k * 12)).block, (ad.add (k * 12)).off + 6, none⟩ = some (.int .i64 xs[k].r.cats) ∧
    w.cell? ⟨(ad.add (k * 12)).block, (ad.add (k * 12)).off + 7, none⟩ = some (.slice B2 xs[k].r.fields.length e2) ∧ w.cell? ⟨(ad.add (k * 12)).block, (ad.add (k * 12)).off + 8, none⟩ = some (.slice B3 xs[k].r.refs.length e3) ∧
    w.cell? ⟨(ad.add (k * 12)).block, (ad.add (k * 12)).off + 9, none⟩ = some (.string xs[k].id) ∧ w.cell? ⟨(ad.add (k * 12)).block, (ad.add (k * 12)).off + 10, none⟩ = some (.string xs[k].f.key) ∧ w.cell? ⟨(ad.add (k * 12)).block, (ad.add (k * 12)).off + 11, none⟩ = some (.string xs[k].f.val)) ∧
    Aside (rulR.Row w ok B1 xs[k].rules ∧ fldR.Row w ok B2 xs[k].r.fields ∧ xs[k].r.fields.length ≤ e2 ∧ str.Row w ok B3 xs[k].r.refs ∧ xs[k].r.refs.length ≤ e3) := by
  obtain ⟨ad, c, e, hb, ho, hK, hc0⟩ := h.at_ hk
  have hc : ∀ i u, c[i]? = some u → w.cell? (ad.add (k * 12 + i)) = some u := hc0
  obtain ⟨_, _, _, rfl, ⟨B1, e1, rfl, l1, r1⟩, ⟨B2, e2, rfl, l2, r2⟩, ⟨B3, e3, rfl, l3, r3⟩⟩ := hK
  refine ⟨ad, B1, e1, B2, e2, B3, e3, e, hb, ho, ⟨hc 0 _ rfl, ?_, ?_, ?_, ?_, ?_, ?_, ?_, ?_, ?_, ?_, ?_⟩, ⟨r1, r2, l2, r3, l3⟩⟩
  · rw [← add_field _ _ 1 (by omega)]; exact hc 1 _ rfl
  · rw [← add_field _ _ 2 (by omega)]; exact hc 2 _ rfl
  · rw [← add_field _ _ 3 (by omega)]; exact hc 3 _ rfl
  · rw [← add_field _ _ 4 (by omega)]; exact hc 4 _ rfl
  · rw [← add_field _ _ 5 (by omega)]; exact hc 5 _ rfl
  · rw [← add_field _ _ 6 (by omega)]; exact hc 6 _ rfl
  · rw [← add_field _ _ 7 (by omega)]; exact hc 7 _ rfl
  · rw [← add_field _ _ 8 (by omega)]; exact hc 8 _ rfl
  · rw [← add_field _ _ 9 (by omega)]; exact hc 9 _ rfl
  · rw [← add_field _ _ 10 (by omega)]; exact hc 10 _ rfl
  · rw [← add_field _ _ 11 (by omega)]; exact hc 11 _ rfl
theorem guardWho : Tryz.prog.eqGuardType Tryz.prog.depth 31 = false := by kernel_rfl
theorem eqlWho (a b c : Int) (w : World) : (binOp .eql 31 (.agg #[.int .i64 a, .int .i64 b, .int .i64 c]) (.agg #[.int .i64 a, .int .i64 b, .int .i64 c])).run Tryz.prog w = .ok (.bool true) w := by
  have u1 := Tryz.underlying3
  have a1 := Tryz.isAgg3
  have z1 := Tryz.sizeOf3
  have hS3 : Tryz.prog.underlying 31 = some (.struct (Tryz.prog.fieldsOf 31)) := by kernel_rfl
  have hp3 : Tryz.prog.stoodInHeld 31 = false := by kernel_rfl
  rw [run_eql_struct, show (10000 : Nat) = 9999 + 1 from rfl, run_equalIn_agg w 9999 31 _ _ hS3 hp3]
  simp only [Program.fieldsOf, Tryz.underlying31]
  go_simp
/-- An operation's lists, read. -/
structure OR3 (w : World) (ok : Nat → Prop) (o : OpV) (A1 A2 A3 : Option Addr) : Prop where
  r : rulR.Row w ok A1 o.rules
  f : fldR.Row w ok A2 o.r.fields
  g : str.Row w ok A3 o.r.refs
theorem OR3.below {w w' : World} {ok : Nat → Prop} {o : OpV} {A1 A2 A3 : Option Addr} (h : OR3 w ok o A1 A2 A3) (hb : Below w.heap.size w w') : OR3 w' ok o A1 A2 A3 := ⟨h.r.below hb, h.f.below hb, h.g.below hb⟩
set_option maxRecDepth 100000 in
set_option maxHeartbeats 4000000 in
theorem sameOp (o : OpV) (A1 A2 A3 B1 B2 B3 : Option Addr) (c1 c2 c3 d1 d2 d3 : Nat) (ok ok' : Nat → Prop) (w : World) (ha : OR3 w ok o A1 A2 A3) (hb : OR3 w ok' o B1 B2 B3) :
    Calls Tryz.prog 41 #[.agg #[.int .i64 o.kind, .int .i64 o.who.role, .int .i64 o.who.why, .int .i64 o.who.time, .slice A1 o.rules.length c1, .string o.r.id, .int .i64 o.r.cats, .slice A2 o.r.fields.length c2, .slice A3 o.r.refs.length c3, .string o.id, .string o.f.key, .string o.f.val], .agg #[.int .i64 o.kind, .int .i64 o.who.role, .int .i64 o.who.why, .int .i64 o.who.time, .slice B1 o.rules.length d1, .string o.r.id, .int .i64 o.r.cats, .slice B2 o.r.fields.length d2, .slice B3 o.r.refs.length d3, .string o.id, .string o.f.key, .string o.f.val]] w fun e w' => e = .returned (.bool true) ∧ Below w.heap.size w w' := by
  have hal : Below w.heap.size w ((w.alloc (.cells #[.int .i64 o.kind, .int .i64 o.who.role, .int .i64 o.who.why, .int .i64 o.who.time, .slice A1 o.rules.length c1, .string o.r.id, .int .i64 o.r.cats, .slice A2 o.r.fields.length c2, .slice A3 o.r.refs.length c3, .string o.id, .string o.f.key, .string o.f.val] 40)).alloc (.cells #[.int .i64 o.kind, .int .i64 o.who.role, .int .i64 o.who.why, .int .i64 o.who.time, .slice B1 o.rules.length d1, .string o.r.id, .int .i64 o.r.cats, .slice B2 o.r.fields.length d2, .slice B3 o.r.refs.length d3, .string o.id, .string o.f.key, .string o.f.val] 40)) := ((Below.refl _ _).alloc (Nat.le_refl _) _).alloc (by simp) _
  have b1 := (Bk.made w (#[.int .i64 o.kind, .int .i64 o.who.role, .int .i64 o.who.why, .int .i64 o.who.time, .slice A1 o.rules.length c1, .string o.r.id, .int .i64 o.r.cats, .slice A2 o.r.fields.length c2, .slice A3 o.r.refs.length c3, .string o.id, .string o.f.key, .string o.f.val]).toList 40).alloc (.cells #[.int .i64 o.kind, .int .i64 o.who.role, .int .i64 o.who.why, .int .i64 o.who.time, .slice B1 o.rules.length d1, .string o.r.id, .int .i64 o.r.cats, .slice B2 o.r.fields.length d2, .slice B3 o.r.refs.length d3, .string o.id, .string o.f.key, .string o.f.val] 40)
  have b2 := Bk.made (w.alloc (.cells #[.int .i64 o.kind, .int .i64 o.who.role, .int .i64 o.who.why, .int .i64 o.who.time, .slice A1 o.rules.length c1, .string o.r.id, .int .i64 o.r.cats, .slice A2 o.r.fields.length c2, .slice A3 o.r.refs.length c3, .string o.id, .string o.f.key, .string o.f.val] 40)) (#[.int .i64 o.kind, .int .i64 o.who.role, .int .i64 o.who.why, .int .i64 o.who.time, .slice B1 o.rules.length d1, .string o.r.id, .int .i64 o.r.cats, .slice B2 o.r.fields.length d2, .slice B3 o.r.refs.length d3, .string o.id, .string o.f.key, .string o.f.val]).toList 40
  rw [show (w.alloc (.cells #[.int .i64 o.kind, .int .i64 o.who.role, .int .i64 o.who.why, .int .i64 o.who.time, .slice A1 o.rules.length c1, .string o.r.id, .int .i64 o.r.cats, .slice A2 o.r.fields.length c2, .slice A3 o.r.refs.length c3, .string o.id, .string o.f.key, .string o.f.val] 40)).heap.size = w.heap.size + 1 by simp] at b2
  have HX := Aside.mk (And.intro b1 (And.intro b2 (And.intro (ha.below hal) (And.intro (hb.below hal) hal))))
  clear ha hb hal b1 b2
  go_enter Tryz.func41, Tryz.ntmps41
  go_upto_region 1 with fail
  generalize hw0 : (w.alloc _).alloc _ = w0 at HX ⊢
  clear hw0
  have q1 := (show Bk w0 w.heap.size [.int .i64 o.kind, .int .i64 o.who.role, .int .i64 o.who.why, .int .i64 o.who.time, .slice A1 o.rules.length c1, .string o.r.id, .int .i64 o.r.cats, .slice A2 o.r.fields.length c2, .slice A3 o.r.refs.length c3, .string o.id, .string o.f.key, .string o.f.val] from HX.out.1).twelve
  have q2 := (show Bk w0 (w.heap.size + 1) [.int .i64 o.kind, .int .i64 o.who.role, .int .i64 o.who.why, .int .i64 o.who.time, .slice B1 o.rules.length d1, .string o.r.id, .int .i64 o.r.cats, .slice B2 o.r.fields.length d2, .slice B3 o.r.refs.length d3, .string o.id, .string o.f.key, .string o.f.val] from HX.out.2.1).twelve
  have gw := guardWho
  have gf := guardFld
  have ew := eqlWho o.who.role o.who.why o.who.time
  have ef := eqlFld o.f.key o.f.val o.f.key o.f.val
  rw [eqS_b rfl, eqS_b rfl] at ef
  have g1 : (o.kind == o.kind) = true := beq_self_eq_true _
  have g2 : (o.id.toList == o.id.toList) = true := beq_self_eq_true _
  go_wp2_with fail
  refine (equalRO A1 B1 c1 d1 o.rules o.rules _ _ _ HX.out.2.2.1.r HX.out.2.2.2.1.r).mono ?_
  rw [decide_eq_true rfl]
  rintro e w1 ⟨rfl, hd⟩
  have hb := hd.below
  have HX1 := Aside.mk (And.intro (HX.out.1.below hb) (And.intro (HX.out.2.1.below hb) (And.intro (HX.out.2.2.1.below hb) (And.intro (HX.out.2.2.2.1.below hb) (below_step HX.out.2.2.2.2 hb)))))
  clear hb hd q1 q2 HX
  have q1 := (show Bk w1 w.heap.size [.int .i64 o.kind, .int .i64 o.who.role, .int .i64 o.who.why, .int .i64 o.who.time, .slice A1 o.rules.length c1, .string o.r.id, .int .i64 o.r.cats, .slice A2 o.r.fields.length c2, .slice A3 o.r.refs.length c3, .string o.id, .string o.f.key, .string o.f.val] from HX1.out.1).twelve
  have q2 := (show Bk w1 (w.heap.size + 1) [.int .i64 o.kind, .int .i64 o.who.role, .int .i64 o.who.why, .int .i64 o.who.time, .slice B1 o.rules.length d1, .string o.r.id, .int .i64 o.r.cats, .slice B2 o.r.fields.length d2, .slice B3 o.r.refs.length d3, .string o.id, .string o.f.key, .string o.f.val] from HX1.out.2.1).twelve
  go_wp2_with fail
  refine (sameRecord o.r o.r A2 A3 B2 B3 c2 c3 d2 d3 _ _ _ _ _ HX1.out.2.2.1.f HX1.out.2.2.1.g HX1.out.2.2.2.1.f HX1.out.2.2.2.1.g).mono ?_
  rw [recEq_iff.2 rfl]
  rintro e w2 ⟨rfl, hb⟩
  have HB := Aside.mk (below_step HX1.out.2.2.2.2 hb)
  have r1 := (show Bk w2 w.heap.size [.int .i64 o.kind, .int .i64 o.who.role, .int .i64 o.who.why, .int .i64 o.who.time, .slice A1 o.rules.length c1, .string o.r.id, .int .i64 o.r.cats, .slice A2 o.r.fields.length c2, .slice A3 o.r.refs.length c3, .string o.id, .string o.f.key, .string o.f.val] from HX1.out.1.below hb).twelve
  have r2 := (show Bk w2 (w.heap.size + 1) [.int .i64 o.kind, .int .i64 o.who.role, .int .i64 o.who.why, .int .i64 o.who.time, .slice B1 o.rules.length d1, .string o.r.id, .int .i64 o.r.cats, .slice B2 o.r.fields.length d2, .slice B3 o.r.refs.length d3, .string o.id, .string o.f.key, .string o.f.val] from HX1.out.2.1.below hb).twelve
  clear hb q1 q2 HX1
  go_wp2_with fail
  go_ret
  exact ⟨rfl, HB.out⟩
set_option maxRecDepth 100000 in
set_option maxHeartbeats 4000000 in
theorem equalOps (A B : Option Addr) (n k c d : Nat) (l : List OpV) (ok ok' : Nat → Prop) (w : World) (hl : opRp.Row w ok A l) (hm : opRp.Row w ok' B l) (hn : l.length = n) (hk : l.length = k) :
    Calls Tryz.prog 43 #[.slice A n c, .slice B k d, .func (.func 41) #[] #[]] w fun e w' => e = .returned (.bool true) ∧ Below w.heap.size w w' := by
  subst hn hk
  have HL := Aside.mk hl
  have HM := Aside.mk hm
  have b1 := hl.1
  clear hl hm
  have hne : ((l.length : Int) != (l.length : Int)) = false := by simp
  go_enter Tryz.func43, Tryz.ntmps43
  go_wp2_with fail
  go_loopw [17] (fun i wr => ∃ k : Nat, k ≤ l.length ∧ i = .int .i64 k ∧ Aside (Below w.heap.size w wr)) (fun i _ => l.length - (intOf i).toNat)
  case atStart => exact ⟨0, Nat.zero_le _, rfl, ⟨Below.refl _ _⟩⟩
  case round =>
    obtain ⟨k, hk, rfl, HB⟩ := hrel
    by_cases hlt : k < l.length
    · obtain ⟨ad, A1, c1, A2, c2, A3, c3, rfl, z1, _, x0, HA⟩ := opAt (HL.out.below HB.out) hlt
      obtain ⟨ad2, B1, d1, B2, d2, B3, d3, rfl, z2, _, y0, HC⟩ := opAt (HM.out.below HB.out) hlt
      obtain ⟨o, ho⟩ : ∃ o, o = l[k] := ⟨_, rfl⟩
      rw [← ho] at x0 y0 HA HC
      clear ho
      have hal : Below wr.heap.size wr ((wr.alloc (.cells #[.int .i64 o.kind, .int .i64 o.who.role, .int .i64 o.who.why, .int .i64 o.who.time, .slice A1 o.rules.length c1, .string o.r.id, .int .i64 o.r.cats, .slice A2 o.r.fields.length c2, .slice A3 o.r.refs.length c3, .string o.id, .string o.f.key, .string o.f.val] 40)).alloc (.cells #[.int .i64 o.kind, .int .i64 o.who.role, .int .i64 o.who.why, .int .i64 o.who.time, .slice B1 o.rules.length d1, .string o.r.id, .int .i64 o.r.cats, .slice B2 o.r.fields.length d2, .slice B3 o.r.refs.length d3, .string o.id, .string o.f.key, .string o.f.val] 40)) := ((Below.refl _ _).alloc (Nat.le_refl _) _).alloc (by simp) _
      have HS := Aside.mk (sameOp o A1 A2 A3 B1 B2 B3 c1 c2 c3 d1 d2 d3 _ _ _ (OR3.below ⟨HA.out.1, HA.out.2.1, HA.out.2.2.2.1⟩ hal) (OR3.below ⟨HC.out.1, HC.out.2.1, HC.out.2.2.2.1⟩ hal))
      have HB1 := Aside.mk (below_step HB.out hal)
      have p0 : (0 : Int) ≤ (k : Int) := by omega
      have p1 : (k : Int) < (l.length : Int) := by omega
      have z3 : (ad2.add (k * 12)).block < wr.heap.size := by rw [add_block]; exact z2
      clear hal
      go_wp2_with fail
      refine HS.out.mono ?_
      rintro e w1 ⟨rfl, hb⟩
      have HB2 := Aside.mk (below_step HB1.out hb)
      clear hb
      go_wp2_with fail
      refine ⟨⟨k + 1, by omega, by go_num, HB2⟩, by simp [intOf]; omega⟩
    · obtain rfl : k = l.length := by omega
      go_wp2_with fail
      go_ret
      exact ⟨rfl, HB.out⟩
end Go.Proofs.WK
