/-
  The law RecordSays.
-/
import Derived.Test.YtljjiicjnoljbaaDoorRefSetP
import Derived.Test.YtljjiicjnoljbaaDoorRef0
namespace Go.Proofs.WK
open Go.RowKit Rp
/-- The boxes of the law: the record, the field. -/
structure LR (r : Rec) (f : Fld) (A1 A2 : Option Addr) (c1 c2 n : Nat) (w W : World) : Prop where
  b0 : Bk W n [.string r.id, .int .i64 r.cats, .slice A1 r.fields.length c1, .slice A2 r.refs.length c2]
  b1 : Bk W (n + 1) (fldC f)
  f1 : fldR.Row W (fun _ => True) A1 r.fields
  f2 : str.Row W (fun _ => True) A2 r.refs
  bel : Below w.heap.size w W
variable {r : Rec} {f : Fld} {A1 A2 : Option Addr} {c1 c2 n : Nat} {w w0 W W' : World}
theorem LR.below (h : LR r f A1 A2 c1 c2 n w W) (hb : Below W.heap.size W W') : LR r f A1 A2 c1 c2 n w W' :=
  ⟨h.b0.below hb, h.b1.below hb, h.f1.below hb, h.f2.below hb, below_step h.bel hb⟩
abbrev Krs (r : Rec) (f : Fld) (A1 A2 : Option Addr) (c1 c2 n : Nat) (w0 W : World) : Prop :=
  W.cell? { block := n, off := 0 } = some (.string r.id) ∧ W.cell? { block := n, off := 1 } = some (.int .i64 r.cats) ∧ W.cell? { block := n, off := 2 } = some (.slice A1 r.fields.length c1) ∧ W.cell? { block := n, off := 3 } = some (.slice A2 r.refs.length c2) ∧
  W.cell? { block := n + 1, off := 0 } = some (.string f.key) ∧ W.cell? { block := n + 1, off := 1 } = some (.string f.val) ∧ Aside (LR r f A1 A2 c1 c2 n w0 W)
theorem Krs.of (h : LR r f A1 A2 c1 c2 n w0 W) : Krs r f A1 A2 c1 c2 n w0 W := ⟨h.b0.cell 0, h.b0.cell 1, h.b0.cell 2, h.b0.cell 3, h.b1.cell 0, h.b1.cell 1, ⟨h⟩⟩
theorem Krs.step (h : Krs r f A1 A2 c1 c2 n w0 W) (hb : Below W.heap.size W W') : Krs r f A1 A2 c1 c2 n w0 W' := Krs.of (h.2.2.2.2.2.2.out.below hb)
theorem Krs.lr (h : Krs r f A1 A2 c1 c2 n w0 W) : LR r f A1 A2 c1 c2 n w0 W := h.2.2.2.2.2.2.out
theorem LR.start {ok ok' : Nat → Prop} (hf : fldR.Row w ok A1 r.fields) (hg : str.Row w ok' A2 r.refs) :
    LR r f A1 A2 c1 c2 w.heap.size w ((w.alloc (.cells #[.string r.id, .int .i64 r.cats, .slice A1 r.fields.length c1, .slice A2 r.refs.length c2] 35)).alloc (.cells #[.string f.key, .string f.val] 46)) := by
  have hb : Below w.heap.size w ((w.alloc (.cells #[.string r.id, .int .i64 r.cats, .slice A1 r.fields.length c1, .slice A2 r.refs.length c2] 35)).alloc (.cells #[.string f.key, .string f.val] 46)) := ((Below.refl _ _).alloc (Nat.le_refl _) _).alloc (by simp) _
  have h1 := Bk.made (w.alloc (.cells #[.string r.id, .int .i64 r.cats, .slice A1 r.fields.length c1, .slice A2 r.refs.length c2] 35)) (fldC f) 46
  rw [show (w.alloc (.cells #[.string r.id, .int .i64 r.cats, .slice A1 r.fields.length c1, .slice A2 r.refs.length c2] 35)).heap.size = w.heap.size + 1 by simp] at h1
  exact ⟨(Bk.made w [.string r.id, .int .i64 r.cats, .slice A1 r.fields.length c1, .slice A2 r.refs.length c2] 35).alloc _, h1, (hf.mono fun _ _ _ => trivial).below hb, (hg.mono fun _ _ _ => trivial).below hb, hb⟩
/-- Distinct keys: the last that fits is the first. -/
theorem keyK_way (l : List Fld) (key : ByteArray) : ∀ k, k ≤ l.length → (keyEK l key k = 4 ∧ keyVK l key k = ⟨#[]⟩) ∨ (keyEK l key k = 0 ∧ ∃ j, ∃ h : j < l.length, j < k ∧ l[j].key = key)
  | 0, _ => .inl ⟨rfl, rfl⟩
  | k + 1, hk => by
    rcases keyK_way l key k (by omega) with h | ⟨h, j, hj, hjk, e⟩
    · by_cases he : l[k].key = key
      · right
        refine ⟨?_, k, by omega, by omega, he⟩
        rw [keyEK, if_neg (by omega), List.getElem?_eq_getElem (by omega)]
        exact if_pos he
      · exact .inl (keyK_miss (by omega) he h)
    · exact .inr ⟨(keyK_more h (k + 1) (by omega)).1, j, hj, by omega, e⟩
theorem keyK_last {l : List Fld} {key : ByteArray} (hs : KSrt l) {k : Nat} (hk : k < l.length) (h : l[k].key = key) : keyEK l key (k + 1) = 0 ∧ keyVK l key (k + 1) = l[k].val := by
  rcases keyK_way l key k (by omega) with h4 | ⟨_, j, hj, hjk, e⟩
  · constructor
    · rw [keyEK, if_neg (by omega), List.getElem?_eq_getElem hk]
      exact if_pos h
    · rw [keyVK, if_neg (by omega), List.getElem?_eq_getElem hk]
      exact if_pos h
  · have := List.pairwise_iff_getElem.1 hs j k hj hk hjk
    rw [e, h, slt_irrefl] at this
    cases this
theorem keyK_pass {l : List Fld} {key : ByteArray} {k : Nat} (hk : k < l.length) (h : ¬ l[k].key = key) : keyEK l key (k + 1) = keyEK l key k ∧ keyVK l key (k + 1) = keyVK l key k := by
  rcases keyK_way l key k (by omega) with h4 | ⟨h0, _⟩
  · have := keyK_miss hk h h4
    rw [this.1, this.2, h4.1, h4.2]
    exact ⟨rfl, rfl⟩
  · obtain ⟨a, b⟩ := keyK_more h0 (k + 1) (by omega)
    rw [a, b, h0]
    exact ⟨rfl, rfl⟩
theorem idA : idOk ⟨#[97]⟩ = true := by decide
theorem sameNo (v1 v2 : Value) (x : Rec) (ok ok' : Nat → Prop) (w : World) (h : x = noRec) (s1 : fldR.Sl w ok v1 x.fields) (s2 : str.Sl w ok' v2 x.refs) :
    Calls Tryd.prog 35 #[.agg #[.string x.id, .int .i64 x.cats, v1, v2], .agg #[.string ⟨#[]⟩, .int .i64 0, .slice none 0 0, .slice none 0 0]] w fun e w' => e = .returned (.bool true) ∧ Below w.heap.size w w' := by
  obtain ⟨X1, d1, rfl, _, r1⟩ := s1
  obtain ⟨X2, d2, rfl, _, r2⟩ := s2
  refine (sameRecord x noRec X1 X2 none none d1 d2 0 0 ok ok' (fun _ => True) (fun _ => True) w r1 r2 Row.nil Row.nil).mono ?_
  rintro e w' ⟨rfl, hb⟩
  exact ⟨by rw [recEq_iff.2 h], hb⟩
set_option maxHeartbeats 8000000 in
set_option maxRecDepth 100000 in
theorem recordSaysL (r : Rec) (key : ByteArray) (f : Fld) (A1 A2 : Option Addr) (c1 c2 : Nat) (ok ok' : Nat → Prop) (w : World) (hwf : RecWf r) (hfv : f.val.size ≤ 9223372036854775807) (hf : fldR.Row w ok A1 r.fields) (hg : str.Row w ok' A2 r.refs) (hc2 : r.refs.length ≤ c2) :
    Calls Tryd.prog 8 #[.agg #[.string r.id, .int .i64 r.cats, .slice A1 r.fields.length c1, .slice A2 r.refs.length c2], .string key, .agg #[.string f.key, .string f.val]] w fun e w' => e = .returned (.bool true) ∧ Below w.heap.size w w' := by
  have HX := Aside.mk (LR.start (f := f) (c1 := c1) (c2 := c2) hf hg)
  have HWF := Aside.mk (And.intro hwf (And.intro hfv hc2))
  clear hf hg hwf hfv hc2
  go_enter Tryd.func8, Tryd.ntmps8
  go_upto_region 1 with fail
  generalize hW : (w.alloc _).alloc _ = w0 at HX ⊢
  clear hW
  obtain ⟨n, hn⟩ : ∃ n, n = w.heap.size := ⟨_, rfl⟩
  rw [← hn] at HX ⊢
  have HN := Aside.mk hn
  clear hn
  have q0 := Krs.of HX.out
  go_wp2_with fail
  refine (recGet r key A1 A2 c1 c2 _ _ _ HX.out.f1 HX.out.f2).mono ?_
  rintro e w1 ⟨rfl, hb⟩
  have HX1 := Aside.mk (HX.out.below hb)
  clear hb HX q0
  have q1 := Krs.of HX1.out
  go_wp2_with fail
  refine (recSet r f A1 A2 c1 c2 _ _ _ HX1.out.f1 HX1.out.f2).mono ?_
  rintro e w2 ⟨v1, v2, rfl, s1, s2, hb⟩
  obtain ⟨X1, d1, rfl, hd1, r1⟩ := s1
  obtain ⟨X2, d2, rfl, hd2, r2⟩ := s2
  have hal : Below w2.heap.size w2 (w2.alloc (.cells #[.string (setR r f).id, .int .i64 (setR r f).cats, .slice X1 (setR r f).fields.length d1, .slice X2 (setR r f).refs.length d2] 35)) := (Below.refl _ _).alloc (Nat.le_refl _) _
  have HX2 := Aside.mk ((HX1.out.below hb).below hal)
  have HS2 := Aside.mk (And.intro (r1.below hal) (r2.below hal))
  have HQ2 := Aside.mk (Bk.made w2 [.string (setR r f).id, .int .i64 (setR r f).cats, .slice X1 (setR r f).fields.length d1, .slice X2 (setR r f).refs.length d2] 35)
  have HD2 := Aside.mk (And.intro hd1 hd2)
  clear hb HX1 q1 r1 r2 hal hd1 hd2
  go_upto_region 3 with fail
  generalize hR : w2.heap.size = R at HQ2 ⊢
  generalize hW2 : w2.alloc _ = w3 at HX2 HS2 HQ2 ⊢
  clear hR hW2
  have q3 := Krs.of HX2.out
  go_wp2_with fail
  refine (refRecord r A1 A2 c1 c2 _ _ HWF.out.1 _ HX2.out.f1 HX2.out.f2).mono ?_
  rintro e w4 ⟨rfl, hb⟩
  have HX4 := Aside.mk (show LR r f A1 A2 c1 c2 n w4 w4 from let h := HX2.out.below hb; ⟨h.b0, h.b1, h.f1, h.f2, Below.refl _ _⟩)
  have HB4 := Aside.mk (HX2.out.below hb).bel
  have HS4 := Aside.mk (And.intro (HS2.out.1.below hb) (HS2.out.2.below hb))
  have HQ4 := Aside.mk (HQ2.out.below hb)
  clear hb HX2 HS2 HQ2 q3
  have q4 := Krs.of HX4.out
  go_upto_region 4 with fail
  go_region_held3 (fun w' => Krs r f A1 A2 c1 c2 n w4 w')
    (first | exact Krs.step (Krs.of HX4.out) (below_drewN (Below.refl _ _) 1) | assumption)
    (first
     | (go_at_call 51; with_reducible refine (recId key _).mono ?_; rintro e w' ⟨rfl, rfl⟩)
     | (go_at_call 44; with_reducible refine (refId key _).mono ?_; rintro e w' ⟨rfl, hb⟩; have hx := Krs.step (r := r) (f := f) (A1 := A1) (A2 := A2) (c1 := c1) (c2 := c2) (n := n) (w0 := w4) (by assumption) hb; clear hb)
     | (go_at_call 52; with_reducible refine (recValue f.val _).mono ?_; rintro e w' ⟨rfl, rfl⟩)
     | (go_at_call 45; with_reducible refine (refValue f.val HWF.out.2.1 _).mono ?_; rintro e w' ⟨rfl, hb⟩; have hx := Krs.step (r := r) (f := f) (A1 := A1) (A2 := A2) (c1 := c1) (c2 := c2) (n := n) (w0 := w4) (by assumption) hb; clear hb)
     | (go_at_call 53; with_reducible refine (recCheck r A1 A2 c1 c2 _ _ _ (Krs.lr (r := r) (f := f) (A1 := A1) (A2 := A2) (c1 := c1) (c2 := c2) (n := n) (w0 := w4) (by assumption)).f1 (Krs.lr (r := r) (f := f) (A1 := A1) (A2 := A2) (c1 := c1) (c2 := c2) (n := n) (w0 := w4) (by assumption)).f2).mono ?_; rintro e w' ⟨rfl, hb⟩; have hx := Krs.step (r := r) (f := f) (A1 := A1) (A2 := A2) (c1 := c1) (c2 := c2) (n := n) (w0 := w4) (by assumption) hb; clear hb)
     | (go_at_call 51; with_reducible refine (recId ⟨#[97]⟩ _).mono ?_; rw [idA]; rintro e w' ⟨rfl, rfl⟩))
  have HX5 := Aside.mk (Krs.lr hx)
  have HB5 := Aside.mk (below_step HB4.out (Krs.lr hx).bel)
  have HS5 := Aside.mk (And.intro (HS4.out.1.below (Krs.lr hx).bel) (HS4.out.2.below (Krs.lr hx).bel))
  have HQ5 := Aside.mk (HQ4.out.below (Krs.lr hx).bel)
  clear HX4 HB4 HS4 HQ4 q4 hx
  rename World => w5
  have q5 := Krs.of HX5.out
  have p5 := HQ5.out.four
  by_cases h0 : recErr r = 0
  case neg =>
    have g0 : (recErr r != 0) = true := by simp [h0]
    obtain ⟨e1, e2⟩ := setErr_a (f := f) h0
    have e3 : keyE r key = recErr r ∧ keyV r key = ⟨#[]⟩ := by unfold keyE keyV; rw [if_neg h0, if_neg h0]; exact ⟨rfl, rfl⟩
    rw [e1, e3.1, e3.2]
    have HSN := Aside.mk (sameNo _ _ (setR r f) _ _ w5 e2 ⟨X1, d1, rfl, HD2.out.1, HS5.out.1⟩ ⟨X2, d2, rfl, HD2.out.2, HS5.out.2⟩)
    clear h0 e1 e2 e3
    go_wp2_with fail
    refine HSN.out.mono ?_
    rintro e w6 ⟨rfl, hb⟩
    have HB6 := Aside.mk (below_step HB5.out hb)
    clear hb
    go_wp2_with fail
    go_ret
    exact ⟨rfl, HB6.out⟩
  case pos =>
    have H0 := Aside.mk h0
    have HK := Aside.mk (show keyE r key = keyEK r.fields key r.fields.length ∧ keyV r key = keyVK r.fields key r.fields.length by unfold keyE keyV; rw [if_pos h0, if_pos h0]; exact ⟨rfl, rfl⟩)
    have hrk := rec_ok h0
    have HKS := Aside.mk (ksrt_of hrk.2.2.2.2.2.1)
    have hl6 : r.fields.length ≤ 6 := hrk.2.2.2.1
    rw [h0, HK.out.1, HK.out.2]
    clear h0 hrk
    go_wp2_with fail
    go_loopw [12, 13, 77] (fun a b i wr => ∃ k : Nat, k ≤ r.fields.length ∧ i = .int .i64 k ∧ a = .string (keyVK r.fields key k) ∧ b = .int .i64 (keyEK r.fields key k) ∧ Aside (Below w5.heap.size w5 wr)) (fun _ _ i _ => r.fields.length - (intOf i).toNat)
    case atStart => exact ⟨0, Nat.zero_le _, rfl, rfl, rfl, ⟨Below.refl _ _⟩⟩
    case round =>
      obtain ⟨k, hk, rfl, rfl, rfl, HW⟩ := hrel
      by_cases hlt : k < r.fields.length
      · have i0 : (0 : Int) ≤ (k : Int) := by omega
        have i1 : (k : Int) < (r.fields.length : Int) := by omega
        obtain ⟨ad, rfl, _, x0, x1⟩ := fld_at (HX5.out.f1.below HW.out) hlt
        have HN : Aside (Below w5.heap.size w5 (wr.alloc (.cells #[.string r.fields[k].key, .string r.fields[k].val] 46))) := ⟨HW.out.alloc HW.out.size _⟩
        by_cases hy : r.fields[k].key = key
        · have g1 := eqS_b' hy
          have HH := Aside.mk (keyK_last HKS.out hlt hy)
          clear hy
          go_wp2_with fail
          exact ⟨⟨k + 1, by omega, by go_num, by rw [HH.out.2], by rw [HH.out.1], HN⟩, by simp [intOf]; omega⟩
        · have g1 := eqS_f' hy
          have HH := Aside.mk (keyK_pass (key := key) hlt hy)
          clear hy
          go_wp2_with fail
          exact ⟨⟨k + 1, by omega, by go_num, by rw [HH.out.2], by rw [HH.out.1], HN⟩, by simp [intOf]; omega⟩
      · obtain rfl : k = r.fields.length := by omega
        generalize keyVK r.fields key r.fields.length = vv
        generalize keyEK r.fields key r.fields.length = ve
        have HX6 := Aside.mk (HX5.out.below HW.out)
        have HB6 := Aside.mk (below_step HB5.out HW.out)
        have HQ6 := Aside.mk (HQ5.out.below HW.out)
        have HRI := Aside.mk (refId f.key wr)
        clear q5 p5
        have q6 := Krs.of HX6.out
        cases hi : idOk f.key
        case false =>
          obtain ⟨e1, e2⟩ := setErr_b (f := f) H0.out (.inl hi)
          have HSN := Aside.mk (fun W (hb : Below wr.heap.size wr W) => sameNo _ _ (setR r f) _ _ W e2 ⟨X1, d1, rfl, HD2.out.1, (HS5.out.1.below HW.out).below hb⟩ ⟨X2, d2, rfl, HD2.out.2, (HS5.out.2.below HW.out).below hb⟩)
          rw [hi] at HRI
          rw [e1]
          clear hi e1 e2
          go_wp2_with fail
          refine HRI.out.mono ?_
          rintro e w7 ⟨rfl, hb⟩
          have HB7 := Aside.mk (below_step HB6.out hb)
          have HSN7 := Aside.mk (HSN.out _ hb)
          have p7 := (HQ6.out.below hb).four
          clear hb HSN q6
          go_wp2_with fail
          refine HSN7.out.mono ?_
          rintro e w8 ⟨rfl, hb⟩
          have HB8 := Aside.mk (below_step HB7.out hb)
          clear hb
          go_wp2_with fail
          go_ret
          exact ⟨rfl, HB8.out⟩
        case true =>
          rw [hi] at HRI
          have HI := Aside.mk hi
          clear hi
          go_wp2_with fail
          refine HRI.out.mono ?_
          rintro e w7 ⟨rfl, hb⟩
          have HX7 := Aside.mk (HX6.out.below hb)
          have HB7 := Aside.mk (below_step HB6.out hb)
          have HS7 := Aside.mk (And.intro ((HS5.out.1.below HW.out).below hb) ((HS5.out.2.below HW.out).below hb))
          have HQ7 := Aside.mk (HQ6.out.below hb)
          have HRV := Aside.mk (refValue f.val HWF.out.2.1 w7)
          clear hb q6 HX6 HB6 HQ6 HRI
          have q7 := Krs.of HX7.out
          cases hv : valOk f.val
          case false =>
            obtain ⟨e1, e2⟩ := setErr_b (f := f) H0.out (.inr hv)
            have HSN := Aside.mk (fun W (hb : Below w7.heap.size w7 W) => sameNo _ _ (setR r f) _ _ W e2 ⟨X1, d1, rfl, HD2.out.1, HS7.out.1.below hb⟩ ⟨X2, d2, rfl, HD2.out.2, HS7.out.2.below hb⟩)
            rw [hv] at HRV
            rw [e1]
            clear hv e1 e2
            go_wp2_with fail
            refine HRV.out.mono ?_
            rintro e w8 ⟨rfl, hb⟩
            have HB8 := Aside.mk (below_step HB7.out hb)
            have HSN8 := Aside.mk (HSN.out _ hb)
            have p8 := (HQ7.out.below hb).four
            clear hb HSN q7
            go_wp2_with fail
            refine HSN8.out.mono ?_
            rintro e w9 ⟨rfl, hb⟩
            have HB9 := Aside.mk (below_step HB8.out hb)
            clear hb
            go_wp2_with fail
            go_ret
            exact ⟨rfl, HB9.out⟩
          case true =>
            rw [hv] at HRV
            have HV := Aside.mk hv
            clear hv
            go_wp2_with fail
            refine HRV.out.mono ?_
            rintro e w8 ⟨rfl, hb⟩
            have HX8 := Aside.mk (HX7.out.below hb)
            have HB8 := Aside.mk (below_step HB7.out hb)
            have HS8 := Aside.mk (And.intro (HS7.out.1.below hb) (HS7.out.2.below hb))
            have HQ8 := Aside.mk (HQ7.out.below hb)
            clear hb q7 HX7 HB7 HS7 HQ7 HRV
            have q8 := Krs.of HX8.out
            go_wp2_with fail
            refine (refSet r f A1 A2 c1 c2 HWF.out.2.2 _ _ _ HX8.out.f1 HX8.out.f2 H0.out HI.out HV.out).mono ?_
            rintro e w9 ⟨v1, v2, rfl, s1, s2, hb⟩
            obtain ⟨Y1, y1, rfl, _, r1⟩ := s1
            obtain ⟨Y2, y2, rfl, _, r2⟩ := s2
            have hal : Below w9.heap.size w9 (w9.alloc (.cells #[.string (setR r f).id, .int .i64 (setR r f).cats, .slice Y1 (setR r f).fields.length y1, .slice Y2 (setR r f).refs.length y2] 35)) := (Below.refl _ _).alloc (Nat.le_refl _) _
            have HB9 := Aside.mk ((below_step HB8.out hb).alloc (below_step HB8.out hb).size (.cells #[.string (setR r f).id, .int .i64 (setR r f).cats, .slice Y1 (setR r f).fields.length y1, .slice Y2 (setR r f).refs.length y2] 35))
            have HC := Aside.mk (sameRecord (setR r f) (setR r f) X1 X2 Y1 Y2 d1 d2 y1 y2 _ _ _ _ _ ((HS8.out.1.below hb).below hal) ((HS8.out.2.below hb).below hal) (r1.below hal) (r2.below hal))
            rw [recEq_iff.2 rfl] at HC
            have p9 := (HQ8.out.below hb).four
            clear hb r1 r2 hal q8
            go_wp2_with fail
            refine HC.out.mono ?_
            rintro e w10 ⟨rfl, hb⟩
            have HB10 := Aside.mk (below_step HB9.out hb)
            clear hb
            go_wp2_with fail
            go_ret
            exact ⟨by simp, HB10.out⟩
end Go.Proofs.WK
