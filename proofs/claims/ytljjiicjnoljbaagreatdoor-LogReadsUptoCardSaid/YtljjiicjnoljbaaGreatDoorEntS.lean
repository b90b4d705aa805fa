/-
  wyref.said: a line's words as the document reads them (P47).
-/
import Derived.Test.YtljjiicjnoljbaaGreatDoorEntR
import Derived.BigRegion
namespace Go.Proofs.WK
open Go.RowKit Rp
theorem who3 (a b c : ByteArray) : (numsX [a, b, c] = none ∧ whoV3 a b c = none) ∨ ∃ x y z, numsX [a, b, c] = some [x, y, z] ∧ whoV3 a b c = some ⟨x, y, z⟩ := by
  unfold whoV3
  simp only [numsX]
  cases numV a <;> cases numV b <;> cases numV c <;> simp
theorem len4 {t : List ByteArray} (h : t.length = 4) : ∃ a b c d, t = [a, b, c, d] := by
  match t, h with
  | [a, b, c, d], _ => exact ⟨a, b, c, d, rfl⟩
theorem len5 {t : List ByteArray} (h : t.length = 5) : ∃ a b c d e, t = [a, b, c, d, e] := by
  match t, h with
  | [a, b, c, d, e], _ => exact ⟨a, b, c, d, e, rfl⟩
theorem said_put4 {t : List ByteArray} (h : t.length ≠ 4) : saidX (sPut :: t) = none := by
  rw [saidX_put]
  match t, h with
  | [], _ => rfl
  | [_], _ => rfl
  | [_, _], _ => rfl
  | [_, _, _], _ => rfl
  | [_, _, _, _], h => exact absurd rfl h
  | _ :: _ :: _ :: _ :: _ :: _, _ => rfl
theorem said_cut5 {t : List ByteArray} (h : t.length ≠ 5) : saidX (sCut :: t) = none := by
  rw [saidX_cut]
  match t, h with
  | [], _ => rfl
  | [_], _ => rfl
  | [_, _], _ => rfl
  | [_, _, _], _ => rfl
  | [_, _, _, _], _ => rfl
  | [_, _, _, _, _], h => exact absurd rfl h
  | _ :: _ :: _ :: _ :: _ :: _ :: _, _ => rfl
theorem put_cut : sPut ≠ sCut := by decide
theorem cut_put : sCut ≠ sPut := by decide
theorem said_fin1 {α : Type} {D : Rp α} {xs : List α} {w1 : World} {n d : Nat} {X : Option Addr} (h : D.Row w1 (fun k => n ≤ k ∧ k ≠ n) X xs) (hd : xs.length ≤ d) (a0 a1 a2 a3 a4 a5 a6 a7 a8 a9 a10 a11 : Value) :
    D.Sl ((((((((((((w1.setCell ⟨n, 0, none⟩ a0).setCell ⟨n, 1, none⟩ a1).setCell ⟨n, 2, none⟩ a2).setCell ⟨n, 3, none⟩ a3).setCell ⟨n, 4, none⟩ a4).setCell ⟨n, 5, none⟩ a5).setCell ⟨n, 6, none⟩ a6).setCell ⟨n, 7, none⟩ a7).setCell ⟨n, 8, none⟩ a8).setCell ⟨n, 9, none⟩ a9).setCell ⟨n, 10, none⟩ a10).setCell ⟨n, 11, none⟩ a11) (fun k => n ≤ k) (.slice X xs.length d) xs :=
  ⟨_, _, rfl, hd, (h.move fun k hk _ => set_twelve hk.2).mono fun k hk _ => hk.1⟩
/-- What said answers. -/
def SaidD (l : List ByteArray) (w : World) (e : Ending) (w' : World) : Prop :=
  ∃ o v1 v2 v3, e = .returned (.tuple #[.agg (opL o v1 v2 v3).toArray, .bool (saidX l).isSome]) ∧ (∀ x, saidX l = some x → o = x) ∧ rulR.Sl w' (fun k => w.heap.size ≤ k) v1 o.rules ∧ fldR.Sl w' (fun k => w.heap.size ≤ k) v2 o.r.fields ∧ str.Sl w' (fun k => w.heap.size ≤ k) v3 o.r.refs ∧ Below w.heap.size w w'
set_option maxRecDepth 100000 in
set_option maxHeartbeats 4000000 in
/-- Neither rules, nor put of five words, nor cut of six. -/
theorem refSaidN (A : Option Addr) (c n : Nat) (h0 : ByteArray) (t0 : List ByteArray) (ok : Nat → Prop) (w : World) (hr : str.Row w ok A (h0 :: t0)) (hn : (h0 :: t0).length = n) (e3 : h0 ≠ sRules) (e1 : h0 = sPut → t0.length ≠ 4) (e2 : h0 = sCut → t0.length ≠ 5) :
    Calls Tryz.prog 114 #[.slice A n c] w (SaidD (h0 :: t0) w) := by
  subst hn
  obtain ⟨ad, rfl, hbl, hxx⟩ := str_at hr (k := 0) (by simp)
  clear hbl hxx
  have hb : Below w.heap.size w (w.alloc (.cells opZ.toArray 40)) := (Below.refl _ _).alloc (Nat.le_refl _) _
  obtain ⟨ad', h, hbl, x0⟩ := str_at (hr.below hb) (k := 0) (by simp)
  obtain rfl : ad = ad' := Option.some.inj h
  have x0' : (w.alloc (.cells opZ.toArray 40)).cell? ad = some (.string h0) := x0
  have q0 := (Bk.made w opZ 40).twelve
  have HE := Aside.mk (show saidX (h0 :: t0) = none from by
    by_cases e : h0 = sPut
    · rw [e]; exact said_put4 (e1 e)
    · by_cases e' : h0 = sCut
      · rw [e']; exact said_cut5 (e2 e')
      · exact said_else e3 e e')
  have HB := Aside.mk hb
  have g3 : (h0.toList == [114, 117, 108, 101, 115]) = false := by rw [w_rules, decide_eq_false e3]
  obtain ⟨y1, hy1⟩ : ∃ y, y = decide (h0 = sPut) := ⟨_, rfl⟩
  obtain ⟨y2, hy2⟩ : ∃ y, y = decide (h0 = sCut) := ⟨_, rfl⟩
  have g1 : (h0.toList == [112, 117, 116]) = y1 := by rw [w_put, hy1]
  have g2 : (h0.toList == [99, 117, 116]) = y2 := by rw [w_cut, hy2]
  have k1 : y1 = true → (((h0 :: t0).length : Int) == 5) = false := fun h => beq_eq_false_iff_ne.2 (by have := e1 (of_decide_eq_true (hy1.symm.trans h)); simp; omega)
  have k2 : y2 = true → (((h0 :: t0).length : Int) == 6) = false := fun h => beq_eq_false_iff_ne.2 (by have := e2 (of_decide_eq_true (hy2.symm.trans h)); simp; omega)
  have hl0 : (0 : Int) < ((h0 :: t0).length : Int) := by simp
  have hl1 : (0 : Nat) < (h0 :: t0).length := by simp
  obtain ⟨N, hN⟩ : ∃ N, N = (h0 :: t0).length := ⟨_, rfl⟩
  rw [← hN] at k1 k2 hl0 hl1 ⊢
  have HL := Aside.mk hN
  clear hN e1 e2 e3 hy1 hy2 x0 hr hb h hbl
  cases y1 <;> cases y2
  case false.false =>
    clear k1 k2
    go_enter Tryz.func114, Tryz.ntmps114
    go_upto_region 1 with fail
    generalize w.alloc _ = W at q0 x0' HB ⊢
    go_wp2_with fail
    refine bodyPost_ret (v := .tuple #[.agg opZ.toArray, .bool false]) ?_ rfl ?_
    · simp [results, Tryz.results114, go_sem, q0]
    · unfold SaidD
      rw [HE.out]
      exact ⟨opNo, _, _, _, rfl, fun x hx => (by cases hx), Sl.nil _ _ _, Sl.nil _ _ _, Sl.nil _ _ _, below_twelve HB.out (Nat.le_refl _) _ _ _ _ _ _ _ _ _ _ _ _⟩
  case true.false =>
    have k1' := k1 rfl
    clear k1 k2
    go_enter Tryz.func114, Tryz.ntmps114
    go_upto_region 1 with fail
    generalize w.alloc _ = W at q0 x0' HB ⊢
    go_wp2_with fail
    refine bodyPost_ret (v := .tuple #[.agg opZ.toArray, .bool false]) ?_ rfl ?_
    · simp [results, Tryz.results114, go_sem, q0]
    · unfold SaidD
      rw [HE.out]
      exact ⟨opNo, _, _, _, rfl, fun x hx => (by cases hx), Sl.nil _ _ _, Sl.nil _ _ _, Sl.nil _ _ _, below_twelve HB.out (Nat.le_refl _) _ _ _ _ _ _ _ _ _ _ _ _⟩
  case false.true =>
    have k2' := k2 rfl
    clear k1 k2
    go_enter Tryz.func114, Tryz.ntmps114
    go_upto_region 1 with fail
    generalize w.alloc _ = W at q0 x0' HB ⊢
    go_wp2_with fail
    refine bodyPost_ret (v := .tuple #[.agg opZ.toArray, .bool false]) ?_ rfl ?_
    · simp [results, Tryz.results114, go_sem, q0]
    · unfold SaidD
      rw [HE.out]
      exact ⟨opNo, _, _, _, rfl, fun x hx => (by cases hx), Sl.nil _ _ _, Sl.nil _ _ _, Sl.nil _ _ _, below_twelve HB.out (Nat.le_refl _) _ _ _ _ _ _ _ _ _ _ _ _⟩
  case true.true =>
    have k1' := k1 rfl
    have k2' := k2 rfl
    clear k1 k2
    go_enter Tryz.func114, Tryz.ntmps114
    go_upto_region 1 with fail
    generalize w.alloc _ = W at q0 x0' HB ⊢
    go_wp2_with fail
    refine bodyPost_ret (v := .tuple #[.agg opZ.toArray, .bool false]) ?_ rfl ?_
    · simp [results, Tryz.results114, go_sem, q0]
    · unfold SaidD
      rw [HE.out]
      exact ⟨opNo, _, _, _, rfl, fun x hx => (by cases hx), Sl.nil _ _ _, Sl.nil _ _ _, Sl.nil _ _ _, below_twelve HB.out (Nat.le_refl _) _ _ _ _ _ _ _ _ _ _ _ _⟩
theorem said4 {a b d q : ByteArray} : saidX [sPut, a, b, d, q] = (match whoV3 a b d with | some x => if readE q = 0 then some { opNo with kind := 2, who := x, r := readR q } else none | none => none) := by rw [saidX_put]; rfl
set_option maxRecDepth 100000 in
set_option maxHeartbeats 8000000 in
/-- put. -/
theorem refSaidP (A : Option Addr) (c : Nat) (h0 a b d q : ByteArray) (ok : Nat → Prop) (w : World) (hr : str.Row w ok A [h0, a, b, d, q]) (hc : 5 ≤ c) (e1 : h0 = sPut) (hz : ∀ x ∈ [h0, a, b, d, q], x.size < 4294967281) (hm : MaxCell w) :
    Calls Tryz.prog 114 #[.slice A 5 c] w (SaidD [h0, a, b, d, q] w) := by
  obtain ⟨ad, rfl, hbl, hxx⟩ := str_at hr (k := 0) (by simp)
  clear hbl hxx
  have hb : Below w.heap.size w (w.alloc (.cells opZ.toArray 40)) := (Below.refl _ _).alloc (Nat.le_refl _) _
  obtain ⟨ad', h, hbl, x0⟩ := str_at (hr.below hb) (k := 0) (by simp)
  obtain rfl : ad = ad' := Option.some.inj h
  obtain ⟨ad', h', hbl', x4⟩ := str_at (hr.below hb) (k := 4) (by simp)
  obtain rfl : ad = ad' := Option.some.inj h'
  have x0' : (w.alloc (.cells opZ.toArray 40)).cell? ad = some (.string h0) := x0
  have x4' : (w.alloc (.cells opZ.toArray 40)).cell? ⟨ad.block, ad.off + 4, none⟩ = some (.string q) := x4
  have HW : Aside (str.Row (w.alloc (.cells opZ.toArray 40)) ok (some (ad.add (1 * 1))) [a, b, d]) := ⟨((hr.below hb).cut (n := 1) (by simp)).take 3⟩
  have HR := Aside.mk (Bk.made w opZ 40)
  have HB := Aside.mk hb
  have HZ : Aside (∀ x ∈ [a, b, d], x.size < 4294967281) := ⟨fun x hx => hz x (by simp at hx ⊢; rcases hx with h | h | h <;> simp [h])⟩
  have HZQ : Aside (q.size < 4294967281) := ⟨hz q (by simp)⟩
  have HM := Aside.mk hm
  have HX := Aside.mk (show saidX [h0, a, b, d, q] = _ from e1 ▸ said4)
  have g3 : (h0.toList == [114, 117, 108, 101, 115]) = false := by rw [w_rules, decide_eq_false (by rw [e1]; decide)]
  have g1 : (h0.toList == [112, 117, 116]) = true := by rw [w_put, decide_eq_true e1]
  have c1 : (5 : Int) ≤ (c : Int) := by omega
  have c2 : (4 : Int) ≤ (c : Int) := by omega
  have c3 : 4 ≤ c := by omega
  clear x0 x4 hbl hbl' h h' hr hb hz hm e1
  go_enter Tryz.func114, Tryz.ntmps114
  go_upto_region 1 with fail
  generalize w.alloc _ = W at x0' x4' HW HR HB ⊢
  go_wp2_with fail
  refine (refNums _ _ 3 [a, b, d] ok _ HW.out rfl HZ.out (show (3 : Nat) ≤ 4294967281 by decide)).mono ?_
  rintro e w2 ⟨v, rfl, hv, hb2⟩
  have HR2 := Aside.mk (HR.out.below hb2)
  have HB2 := Aside.mk (below_step HB.out hb2)
  have y0 := cell_below hb2 x0'
  have y4 := cell_below hb2 x4'
  have HWS := Aside.mk hb2.size
  clear HR HB hb2 x0' x4' HW
  rcases who3 a b d with ⟨hn, hw⟩ | ⟨a1, a2, a3, hn, hw⟩
  · rw [hn]
    rw [hw] at HX
    have q2 := HR2.out.twelve
    clear hn hw hv
    rw [show (none : Option (List Int)).isSome = false from rfl]
    go_wp2_with fail
    refine bodyPost_ret (v := .tuple #[.agg opZ.toArray, .bool false]) ?_ rfl ?_
    · simp [results, Tryz.results114, go_sem, q2]
    · unfold SaidD
      rw [HX.out]
      exact ⟨opNo, _, _, _, rfl, fun x hx => (by cases hx), Sl.nil _ _ _, Sl.nil _ _ _, Sl.nil _ _ _, below_twelve HB2.out (Nat.le_refl _) _ _ _ _ _ _ _ _ _ _ _ _⟩
  · obtain ⟨AN, cN, rfl, hcN, hrN⟩ := hv _ hn
    rw [hn]
    rw [hw] at HX
    obtain ⟨an, rfl, hln, z0⟩ := int_at hrN (k := 0) (by simp)
    obtain ⟨an', h, _, z1⟩ := int_at hrN (k := 1) (by simp)
    obtain rfl : an = an' := Option.some.inj h
    obtain ⟨an', h', _, z2⟩ := int_at hrN (k := 2) (by simp)
    obtain rfl : an = an' := Option.some.inj h'
    have z0' : w2.cell? an = some (.int .i64 a1) := z0
    have z1' : w2.cell? ⟨an.block, an.off + 1, none⟩ = some (.int .i64 a2) := z1
    have z2' : w2.cell? ⟨an.block, an.off + 2, none⟩ = some (.int .i64 a3) := z2
    clear hn hw hv hrN z0 z1 z2 h h' hcN
    rw [show (some [a1, a2, a3] : Option (List Int)).isSome = true from rfl]
    rw [show ([a1, a2, a3] : List Int).length = 3 from rfl]
    go_upto_region 17 with fail
    go_region
    have hal : Below w2.heap.size w2 (w2.alloc (.cells #[.int .i64 2, .int .i64 a1, .int .i64 a2, .int .i64 a3, .slice none 0 0, .string ⟨#[]⟩, .int .i64 0, .slice none 0 0, .slice none 0 0, .string ⟨#[]⟩, .string ⟨#[]⟩, .string ⟨#[]⟩] 40)).drew := Below.drew (show Below w2.heap.size w2 (w2.alloc (.cells #[.int .i64 2, .int .i64 a1, .int .i64 a2, .int .i64 a3, .slice none 0 0, .string ⟨#[]⟩, .int .i64 0, .slice none 0 0, .slice none 0 0, .string ⟨#[]⟩, .string ⟨#[]⟩, .string ⟨#[]⟩] 40)) from (Below.refl _ _).alloc (Nat.le_refl _) _)
    have HO3 := Aside.mk ((Bk.made w2 [.int .i64 2, .int .i64 a1, .int .i64 a2, .int .i64 a3, .slice none 0 0, .string ⟨#[]⟩, .int .i64 0, .slice none 0 0, .slice none 0 0, .string ⟨#[]⟩, .string ⟨#[]⟩, .string ⟨#[]⟩] 40).drew)
    have HR3 := Aside.mk (HR2.out.below hal)
    have HB3 := Aside.mk (below_step HB2.out hal)
    have HLQ := Aside.mk (HR2.out.lt)
    have y0' := cell_below hal y0
    have y4' := cell_below hal y4
    clear y0 y4 z0' z1' z2' hal HR2 HB2
    generalize w2.heap.size = Q at HO3 HLQ ⊢
    generalize World.drew _ = w3 at HO3 HR3 HB3 y0' y4' ⊢
    have HC := Aside.mk (refRead q w3 HZQ.out (HM.out.below HB3.out))
    go_wp2_with fail
    refine HC.out.mono ?_
    rintro e w4 ⟨v1, v2, rfl, ⟨X1, d1, rfl, hd1, r1⟩, ⟨X2, d2, rfl, hd2, r2⟩, hb⟩
    have hal : Below w4.heap.size w4 (w4.alloc (.cells #[.string (readR q).id, .int .i64 (readR q).cats, .slice X1 (readR q).fields.length d1, .slice X2 (readR q).refs.length d2] 36)) := (Below.refl _ _).alloc (Nat.le_refl _) _
    have HT5 := Aside.mk (Bk.made w4 [.string (readR q).id, .int .i64 (readR q).cats, .slice X1 (readR q).fields.length d1, .slice X2 (readR q).refs.length d2] 36)
    have HO5 := Aside.mk ((HO3.out.below hb).below hal)
    have HR5 := Aside.mk ((HR3.out.below hb).below hal)
    have HB5 := Aside.mk (below_step (below_step HB3.out hb) hal)
    have HQT := Aside.mk (show Q < w4.heap.size from Nat.lt_of_lt_of_le HO3.out.lt hb.size)
    have HKQ := Aside.mk (show w.heap.size < Q ∧ Q < w3.heap.size from ⟨HLQ.out, HO3.out.lt⟩)
    have HRW5 := Aside.mk (And.intro (r1.below hal) (r2.below hal))
    have HD := Aside.mk (And.intro hd1 hd2)
    clear hb r1 r2 hal HO3 HR3 HB3 y0' y4' HC hd1 hd2 HLQ
    go_upto_region 20 with fail
    generalize w4.heap.size = t at HT5 HQT ⊢
    generalize w4.alloc _ = w5 at HT5 HO5 HR5 HB5 HRW5 ⊢
    have q5 := HO5.out.twelve
    have t5 := HT5.out.four
    go_upto_region 21 with fail
    generalize hw6 : (((w5.setCell _ _).setCell _ _).setCell _ _).setCell _ _ = w6
    have HO6 : Aside (Bk w6 Q [.int .i64 2, .int .i64 a1, .int .i64 a2, .int .i64 a3, .slice none 0 0, .string (readR q).id, .int .i64 (readR q).cats, .slice X1 (readR q).fields.length d1, .slice X2 (readR q).refs.length d2, .string ⟨#[]⟩, .string ⟨#[]⟩, .string ⟨#[]⟩]) := ⟨by
      rw [← hw6]
      exact (((HO5.out.set 5 _).set 6 _).set 7 _).set 8 _⟩
    have HR6 : Aside (Bk w6 w.heap.size opZ) := ⟨by
      have h := HKQ.out.1
      rw [← hw6]
      exact (((HR5.out.other (by omega) _).other (by omega) _).other (by omega) _).other (by omega) _⟩
    have HB6 : Aside (Below w.heap.size w w6) := ⟨by
      have h : w.heap.size ≤ Q := Nat.le_of_lt HKQ.out.1
      rw [← hw6]
      exact below_set (below_set (below_set (below_set HB5.out h _) h _) h _) h _⟩
    have HRW : Aside (fldR.Row w6 (fun k => w.heap.size ≤ k ∧ k ≠ w.heap.size) X1 (readR q).fields ∧ str.Row w6 (fun k => w.heap.size ≤ k ∧ k ≠ w.heap.size) X2 (readR q).refs) := ⟨by
      have h := HKQ.out
      rw [← hw6]
      exact ⟨(HRW5.out.1.move fun k hk _ => set4x (by omega)).mono fun k hk _ => by omega, (HRW5.out.2.move fun k hk _ => set4x (by omega)).mono fun k hk _ => by omega⟩⟩
    have p6 := HR6.out.twelve
    have q6 := HO6.out.twelve
    clear hw6 HO5 HR5 HB5 HRW5 HT5 q5 t5 HR6 HO6
    by_cases hE : readE q = 0
    · have HE := Aside.mk (show (saidX [h0, a, b, d, q]).isSome = true by rw [HX.out, if_pos hE]; rfl)
      have HEQ := Aside.mk (show ∀ x, saidX [h0, a, b, d, q] = some x → { opNo with kind := 2, who := ⟨a1, a2, a3⟩, r := readR q } = x from fun x hx => by rw [HX.out, if_pos hE] at hx; exact Option.some.inj hx)
      rw [hE]
      clear hE
      go_wp2_with fail
      refine bodyPost_ret (v := .tuple #[.agg #[.int .i64 2, .int .i64 a1, .int .i64 a2, .int .i64 a3, .slice none 0 0, .string (readR q).id, .int .i64 (readR q).cats, .slice X1 (readR q).fields.length d1, .slice X2 (readR q).refs.length d2, .string ⟨#[]⟩, .string ⟨#[]⟩, .string ⟨#[]⟩], .bool true]) ?_ rfl ?_
      · simp [results, Tryz.results114, go_sem, p6]
      · unfold SaidD
        rw [HE.out]
        exact ⟨{ opNo with kind := 2, who := ⟨a1, a2, a3⟩, r := readR q }, _, _, _, rfl, HEQ.out, Sl.nil _ _ _, said_fin1 HRW.out.1 HD.out.1 _ _ _ _ _ _ _ _ _ _ _ _, said_fin1 HRW.out.2 HD.out.2 _ _ _ _ _ _ _ _ _ _ _ _, below_twelve HB6.out (Nat.le_refl _) _ _ _ _ _ _ _ _ _ _ _ _⟩
    · have HE := Aside.mk (show (saidX [h0, a, b, d, q]).isSome = false by rw [HX.out, if_neg hE]; rfl)
      have HEQ := Aside.mk (show ∀ x, saidX [h0, a, b, d, q] = some x → { opNo with kind := 2, who := ⟨a1, a2, a3⟩, r := readR q } = x from fun x hx => by rw [HX.out, if_neg hE] at hx; cases hx)
      have g0 : (readE q == 0) = false := beq_eq_false_iff_ne.2 hE
      clear hE
      go_wp2_with fail
      refine bodyPost_ret (v := .tuple #[.agg #[.int .i64 2, .int .i64 a1, .int .i64 a2, .int .i64 a3, .slice none 0 0, .string (readR q).id, .int .i64 (readR q).cats, .slice X1 (readR q).fields.length d1, .slice X2 (readR q).refs.length d2, .string ⟨#[]⟩, .string ⟨#[]⟩, .string ⟨#[]⟩], .bool false]) ?_ rfl ?_
      · simp [results, Tryz.results114, go_sem, p6]
      · unfold SaidD
        rw [HE.out]
        exact ⟨{ opNo with kind := 2, who := ⟨a1, a2, a3⟩, r := readR q }, _, _, _, rfl, HEQ.out, Sl.nil _ _ _, said_fin1 HRW.out.1 HD.out.1 _ _ _ _ _ _ _ _ _ _ _ _, said_fin1 HRW.out.2 HD.out.2 _ _ _ _ _ _ _ _ _ _ _ _, below_twelve HB6.out (Nat.le_refl _) _ _ _ _ _ _ _ _ _ _ _ _⟩
theorem said5 {a b d q x : ByteArray} : saidX [sCut, a, b, d, q, x] = (match whoV3 a b d, numV x with | some y, some n => some { opNo with kind := 3, who := y, r := { noRec with cats := n }, id := q } | _, _ => none) := by rw [saidX_cut]; rfl
set_option maxRecDepth 100000 in
set_option maxHeartbeats 8000000 in
/-- cut. -/
theorem refSaidK (A : Option Addr) (c : Nat) (h0 a b d q y : ByteArray) (ok : Nat → Prop) (w : World) (hr : str.Row w ok A [h0, a, b, d, q, y]) (hc : 6 ≤ c) (e1 : h0 = sCut) (hz : ∀ x ∈ [h0, a, b, d, q, y], x.size < 4294967281) :
    Calls Tryz.prog 114 #[.slice A 6 c] w (SaidD [h0, a, b, d, q, y] w) := by
  obtain ⟨ad, rfl, hbl, hxx⟩ := str_at hr (k := 0) (by simp)
  clear hbl hxx
  obtain ⟨ad'', hx5, hbl, hxx⟩ := str_at hr (k := 5) (by simp)
  obtain rfl : ad = ad'' := Option.some.inj hx5
  have HY : Aside (w.cell? ⟨ad.block, ad.off + 5, none⟩ = some (.string y)) := ⟨hxx⟩
  clear hbl hxx hx5
  have hb : Below w.heap.size w (w.alloc (.cells opZ.toArray 40)) := (Below.refl _ _).alloc (Nat.le_refl _) _
  obtain ⟨ad', h, hbl, x0⟩ := str_at (hr.below hb) (k := 0) (by simp)
  obtain rfl : ad = ad' := Option.some.inj h
  obtain ⟨ad', h', hbl', x4⟩ := str_at (hr.below hb) (k := 4) (by simp)
  obtain rfl : ad = ad' := Option.some.inj h'
  obtain ⟨ad', h'', hbl'', x5⟩ := str_at (hr.below hb) (k := 5) (by simp)
  obtain rfl : ad = ad' := Option.some.inj h''
  have x5' : (w.alloc (.cells opZ.toArray 40)).cell? ⟨ad.block, ad.off + 5, none⟩ = some (.string y) := x5
  have x0' : (w.alloc (.cells opZ.toArray 40)).cell? ad = some (.string h0) := x0
  have x4' : (w.alloc (.cells opZ.toArray 40)).cell? ⟨ad.block, ad.off + 4, none⟩ = some (.string q) := x4
  have HW : Aside (str.Row (w.alloc (.cells opZ.toArray 40)) ok (some (ad.add (1 * 1))) [a, b, d]) := ⟨((hr.below hb).cut (n := 1) (by simp)).take 3⟩
  have HR := Aside.mk (Bk.made w opZ 40)
  have HB := Aside.mk hb
  have HZ : Aside (∀ x ∈ [a, b, d], x.size < 4294967281) := ⟨fun x hx => hz x (by simp at hx ⊢; rcases hx with h | h | h <;> simp [h])⟩
  have HZQ : Aside (y.size < 4294967281) := ⟨hz y (by simp)⟩
  have HX := Aside.mk (show saidX [h0, a, b, d, q, y] = _ from e1 ▸ said5)
  have g3 : (h0.toList == [114, 117, 108, 101, 115]) = false := by rw [w_rules, decide_eq_false (by rw [e1]; decide)]
  have g1 : (h0.toList == [112, 117, 116]) = false := by rw [w_put, decide_eq_false (by rw [e1]; decide)]
  have g2 : (h0.toList == [99, 117, 116]) = true := by rw [w_cut, decide_eq_true e1]
  have c1 : (6 : Int) ≤ (c : Int) := by omega
  have c2 : (4 : Int) ≤ (c : Int) := by omega
  have c3 : 4 ≤ c := by omega
  clear x0 x4 x5 hbl hbl' hbl'' h h' h'' hr hb hz e1
  go_enter Tryz.func114, Tryz.ntmps114
  go_upto_region 1 with fail
  generalize w.alloc _ = W at x0' x4' x5' HW HR HB ⊢
  go_wp2_with fail
  refine (refNums _ _ 3 [a, b, d] ok _ HW.out rfl HZ.out (show (3 : Nat) ≤ 4294967281 by decide)).mono ?_
  rintro e w2 ⟨v, rfl, hv, hb2⟩
  have HR2 := Aside.mk (HR.out.below hb2)
  have HB2 := Aside.mk (below_step HB.out hb2)
  have y0 := cell_below hb2 x0'
  have y4 := cell_below hb2 x4'
  have y5 := cell_below hb2 x5'
  have HWS := Aside.mk hb2.size
  clear HR HB hb2 x0' x4' x5' HW
  rcases who3 a b d with ⟨hn, hw⟩ | ⟨a1, a2, a3, hn, hw⟩
  · rw [hn]
    rw [hw] at HX
    have q2 := HR2.out.twelve
    clear hn hw hv
    rw [show (none : Option (List Int)).isSome = false from rfl]
    go_wp2_with fail
    refine bodyPost_ret (v := .tuple #[.agg opZ.toArray, .bool false]) ?_ rfl ?_
    · simp [results, Tryz.results114, go_sem, q2]
    · unfold SaidD
      rw [HX.out]
      exact ⟨opNo, _, _, _, rfl, fun x hx => (by cases hx), Sl.nil _ _ _, Sl.nil _ _ _, Sl.nil _ _ _, below_twelve HB2.out (Nat.le_refl _) _ _ _ _ _ _ _ _ _ _ _ _⟩
  · obtain ⟨AN, cN, rfl, hcN, hrN⟩ := hv _ hn
    rw [hn]
    rw [hw] at HX
    obtain ⟨an, rfl, hln, z0⟩ := int_at hrN (k := 0) (by simp)
    obtain ⟨an', h, _, z1⟩ := int_at hrN (k := 1) (by simp)
    obtain rfl : an = an' := Option.some.inj h
    obtain ⟨an', h', _, z2⟩ := int_at hrN (k := 2) (by simp)
    obtain rfl : an = an' := Option.some.inj h'
    have z0' : w2.cell? an = some (.int .i64 a1) := z0
    have z1' : w2.cell? ⟨an.block, an.off + 1, none⟩ = some (.int .i64 a2) := z1
    have z2' : w2.cell? ⟨an.block, an.off + 2, none⟩ = some (.int .i64 a3) := z2
    clear hn hw hv hrN z0 z1 z2 h h' hcN
    rw [show (some [a1, a2, a3] : Option (List Int)).isSome = true from rfl]
    rw [show ([a1, a2, a3] : List Int).length = 3 from rfl]
    go_upto_region 17 with fail
    go_region
    have hal : Below w2.heap.size w2 (w2.alloc (.cells #[.int .i64 2, .int .i64 a1, .int .i64 a2, .int .i64 a3, .slice none 0 0, .string ⟨#[]⟩, .int .i64 0, .slice none 0 0, .slice none 0 0, .string ⟨#[]⟩, .string ⟨#[]⟩, .string ⟨#[]⟩] 40)).drew := Below.drew (show Below w2.heap.size w2 (w2.alloc (.cells #[.int .i64 2, .int .i64 a1, .int .i64 a2, .int .i64 a3, .slice none 0 0, .string ⟨#[]⟩, .int .i64 0, .slice none 0 0, .slice none 0 0, .string ⟨#[]⟩, .string ⟨#[]⟩, .string ⟨#[]⟩] 40)) from (Below.refl _ _).alloc (Nat.le_refl _) _)
    have HO3 := Aside.mk ((Bk.made w2 [.int .i64 2, .int .i64 a1, .int .i64 a2, .int .i64 a3, .slice none 0 0, .string ⟨#[]⟩, .int .i64 0, .slice none 0 0, .slice none 0 0, .string ⟨#[]⟩, .string ⟨#[]⟩, .string ⟨#[]⟩] 40).drew)
    have HR3 := Aside.mk (HR2.out.below hal)
    have HB3 := Aside.mk (below_step HB2.out hal)
    have HLQ := Aside.mk (HR2.out.lt)
    have y0' := cell_below hal y0
    have y4' := cell_below hal y4
    have y5' := cell_below hal y5
    clear y0 y4 y5 z0' z1' z2' hal HR2 HB2
    generalize w2.heap.size = Q at HO3 HLQ ⊢
    generalize World.drew _ = w3 at HO3 HR3 HB3 y0' y4' y5' ⊢
    have qq := HO3.out.twelve
    go_upto_region 22 with fail
    go_region
    have HKQ := Aside.mk HLQ.out
    have HO4 : Aside (Bk ((w3.setCell ⟨Q, 0, none⟩ (.int .i64 3)).setCell ⟨Q, 9, none⟩ (.string q)).drew Q [.int .i64 3, .int .i64 a1, .int .i64 a2, .int .i64 a3, .slice none 0 0, .string ⟨#[]⟩, .int .i64 0, .slice none 0 0, .slice none 0 0, .string q, .string ⟨#[]⟩, .string ⟨#[]⟩]) := ⟨((HO3.out.set 0 _).set 9 _).drew⟩
    have HR4 : Aside (Bk ((w3.setCell ⟨Q, 0, none⟩ (.int .i64 3)).setCell ⟨Q, 9, none⟩ (.string q)).drew w.heap.size opZ) := ⟨by
      have h := HKQ.out
      exact ((HR3.out.other (by omega) _).other (by omega) _).drew⟩
    have HB4 : Aside (Below w.heap.size w ((w3.setCell ⟨Q, 0, none⟩ (.int .i64 3)).setCell ⟨Q, 9, none⟩ (.string q)).drew) := ⟨by
      have h : w.heap.size ≤ Q := Nat.le_of_lt HKQ.out
      exact Below.drew (below_set (below_set HB3.out h _) h _)⟩
    clear qq HO3 HR3 HB3 y0' y4' y5' HLQ
    generalize World.drew _ = w4 at HO4 HR4 HB4 ⊢
    have y5 := cell_below HB4.out HY.out
    have HC := Aside.mk (refNum y w4 HZQ.out)
    go_wp2_with fail
    refine HC.out.mono ?_
    rintro e w5 ⟨v, rfl, hv, hb⟩
    have HV := Aside.mk hv
    have HO5 := Aside.mk (HO4.out.below hb)
    have HR5 := Aside.mk (HR4.out.below hb)
    have HB5 := Aside.mk (below_step HB4.out hb)
    have q5 := HO5.out.twelve
    clear hb hv HO4 HR4 HB4 HC y5
    go_upto_region 24 with fail
    generalize hw6 : w5.setCell _ _ = w6
    have HO6 : Aside (Bk w6 Q [.int .i64 3, .int .i64 a1, .int .i64 a2, .int .i64 a3, .slice none 0 0, .string ⟨#[]⟩, .int .i64 v, .slice none 0 0, .slice none 0 0, .string q, .string ⟨#[]⟩, .string ⟨#[]⟩]) := ⟨by
      rw [← hw6]
      exact HO5.out.set 6 _⟩
    have HR6 : Aside (Bk w6 w.heap.size opZ) := ⟨by
      have h := HKQ.out
      rw [← hw6]
      exact HR5.out.other (by omega) _⟩
    have HB6 : Aside (Below w.heap.size w w6) := ⟨by
      have h : w.heap.size ≤ Q := Nat.le_of_lt HKQ.out
      rw [← hw6]
      exact below_set HB5.out h _⟩
    have p6 := HR6.out.twelve
    have q6 := HO6.out.twelve
    clear hw6 HO5 HR5 HB5 q5 HR6 HO6
    cases hE : numV y with
    | some n =>
      obtain rfl := HV.out n hE
      have HE := Aside.mk (show (saidX [h0, a, b, d, q, y]).isSome = true by rw [HX.out, hE]; rfl)
      have HEQ := Aside.mk (show ∀ x, saidX [h0, a, b, d, q, y] = some x → { opNo with kind := 3, who := ⟨a1, a2, a3⟩, r := { noRec with cats := v }, id := q } = x from fun x hx => by rw [HX.out, hE] at hx; exact Option.some.inj hx)
      clear hE HX HV
      rw [show (some v : Option Int).isSome = true from rfl]
      go_wp2_with fail
      refine bodyPost_ret (v := .tuple #[.agg #[.int .i64 3, .int .i64 a1, .int .i64 a2, .int .i64 a3, .slice none 0 0, .string ⟨#[]⟩, .int .i64 v, .slice none 0 0, .slice none 0 0, .string q, .string ⟨#[]⟩, .string ⟨#[]⟩], .bool true]) ?_ rfl ?_
      · simp [results, Tryz.results114, go_sem, p6]
      · unfold SaidD
        rw [HE.out]
        exact ⟨{ opNo with kind := 3, who := ⟨a1, a2, a3⟩, r := { noRec with cats := v }, id := q }, _, _, _, rfl, HEQ.out, Sl.nil _ _ _, Sl.nil _ _ _, Sl.nil _ _ _, below_twelve HB6.out (Nat.le_refl _) _ _ _ _ _ _ _ _ _ _ _ _⟩
    | none =>
      have HE := Aside.mk (show (saidX [h0, a, b, d, q, y]).isSome = false by rw [HX.out, hE]; rfl)
      have HEQ := Aside.mk (show ∀ x, saidX [h0, a, b, d, q, y] = some x → { opNo with kind := 3, who := ⟨a1, a2, a3⟩, r := { noRec with cats := v }, id := q } = x from fun x hx => by rw [HX.out, hE] at hx; cases hx)
      clear hE HX HV
      rw [show (none : Option Int).isSome = false from rfl]
      go_wp2_with fail
      refine bodyPost_ret (v := .tuple #[.agg #[.int .i64 3, .int .i64 a1, .int .i64 a2, .int .i64 a3, .slice none 0 0, .string ⟨#[]⟩, .int .i64 v, .slice none 0 0, .slice none 0 0, .string q, .string ⟨#[]⟩, .string ⟨#[]⟩], .bool false]) ?_ rfl ?_
      · simp [results, Tryz.results114, go_sem, p6]
      · unfold SaidD
        rw [HE.out]
        exact ⟨{ opNo with kind := 3, who := ⟨a1, a2, a3⟩, r := { noRec with cats := v }, id := q }, _, _, _, rfl, HEQ.out, Sl.nil _ _ _, Sl.nil _ _ _, Sl.nil _ _ _, below_twelve HB6.out (Nat.le_refl _) _ _ _ _ _ _ _ _ _ _ _ _⟩
end Go.Proofs.WK
