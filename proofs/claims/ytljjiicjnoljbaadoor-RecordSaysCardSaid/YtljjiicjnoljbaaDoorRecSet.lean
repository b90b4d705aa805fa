/-
  record.Set (P18).
-/
import Derived.Test.YtljjiicjnoljbaaDoorInsF
import Derived.Test.YtljjiicjnoljbaaDoorSearch
namespace Go.Proofs.WK
open Go.RowKit Rp
set_option maxHeartbeats 4000000 in
set_option maxRecDepth 100000 in
theorem recCopiedO (r : Rec) (A1 A2 : Option Addr) (c1 c2 : Nat) (ok ok' : Nat → Prop) (w : World) (hf : fldR.Row w ok A1 r.fields) (hg : str.Row w ok' A2 r.refs) (l1 : r.fields.length ≤ 6) (l2 : r.refs.length ≤ 4) :
    Calls Tryd.prog 81 #[.agg #[.string r.id, .int .i64 r.cats, .slice A1 r.fields.length c1, .slice A2 r.refs.length c2]] w fun e w' => ∃ v1 v2 base, e = .returned (.agg #[.string r.id, .int .i64 r.cats, v1, v2]) ∧ w.heap.size < base ∧ base ≤ w'.heap.size ∧
      fldR.Own 46 w' base (fun _ => False) v1 r.fields ∧ str.Sl w' (fun k => w.heap.size ≤ k ∧ some k ≠ v1.ownBlock) v2 r.refs ∧ Below w.heap.size w w' := by
  have hb1 : Below w.heap.size w ((w.alloc (.cells (recC r A1 A2 c1 c2).toArray 35)).alloc (.cells #[.string ⟨#[]⟩, .int .i64 0, .slice none 0 0, .slice none 0 0] 35)) := ((Below.refl _ _).alloc (Nat.le_refl _) _).alloc (by simp) _
  have HF := Aside.mk (hf.below hb1)
  have HG := Aside.mk (hg.below hb1)
  have HQ := Aside.mk ((Bk.made w (recC r A1 A2 c1 c2) 35).alloc (.cells #[.string ⟨#[]⟩, .int .i64 0, .slice none 0 0, .slice none 0 0] 35))
  have HB := Aside.mk hb1
  have HP := Aside.mk (Bk.made (w.alloc (.cells (recC r A1 A2 c1 c2).toArray 35)) [.string ⟨#[]⟩, .int .i64 0, .slice none 0 0, .slice none 0 0] 35)
  rw [show (w.alloc (.cells (recC r A1 A2 c1 c2).toArray 35)).heap.size = w.heap.size + 1 from by simp] at HP
  have l1' : r.fields.length * 32 ≤ 140737488355328 := by omega
  have l2' : r.refs.length * 16 ≤ 140737488355328 := by omega
  clear hf hg hb1 l1 l2
  go_enter Tryd.func81, Tryd.ntmps81
  go_wp2_with fail
  generalize hW : (w.alloc (.cells (recC r A1 A2 c1 c2).toArray 35)).alloc (.cells #[.string ⟨#[]⟩, .int .i64 0, .slice none 0 0, .slice none 0 0] 35) = w0 at HF HG HQ HB HP ⊢
  clear hW
  have q0 := HQ.out.four
  go_region_with (first
    | (go_at_call 113; refine (cloneF A1 c1 r.fields ok _ (HF.out.below (below_drewN (Below.refl _ _) 1)) l1').mono ?_; rintro e w1 ⟨v1, rfl, ho, hb⟩; obtain ⟨A3, c3, rfl, _, _⟩ := ho.sl
       have q1 := (HQ.out.below (below_step (below_drewN (Below.refl _ _) 1) hb)).four
       have HX := Aside.mk (And.intro ho (below_step (below_drewN (Below.refl _ _) 1) hb)); clear ho hb)
    | (go_at_call 114; refine (cloneSt A2 c2 r.refs ok' _ (HG.out.below HX.out.2) l2').mono ?_; rintro e w2 ⟨v2, rfl, ho, hb⟩; obtain ⟨A4, c4, rfl, _, _⟩ := ho.sl
       have q2 := (HQ.out.below (below_step HX.out.2 hb)).four
       have q3 := (HP.out.below (below_step HX.out.2 hb)).four
       have HY := Aside.mk (And.intro ho hb); clear ho hb))
  all_goals
    have q4 : w.heap.size ≤ w0.heap.size ∧ w.heap.size + 1 < w0.heap.size := ⟨HB.out.size, HP.out.lt⟩
    have HS : Aside (w.heap.size < w0.heap.size) := ⟨by omega⟩
    have HZ : Aside (∀ k, w0.heap.size ≤ k → k ≠ w.heap.size ∧ k ≠ w.heap.size + 1 ∧ w.heap.size ≤ k) := ⟨fun k hk => by omega⟩
    clear q0 q1 q4 HF HG HQ HP l1' l2'
    go_wp2
    refine bodyPost_ret (v := .agg #[.string r.id, .int .i64 r.cats, .slice A3 r.fields.length c3, .slice A4 r.refs.length c4]) ?_ rfl ⟨_, _, w0.heap.size, rfl, ?_, ?_, ?_, ?_, ?_⟩
    · simp [results, Tryd.results81, go_sem, q3]
    · exact HS.out
    · have h1 := HX.out.2.size
      have h2 := HY.out.2.size
      simp [World.setCell]
      omega
    · have h1 := (fld_flat (ok' := fun _ => False) HX.out.1).below HY.out.2
      exact h1.move (fun k hk => sets6 (HZ.out k (h1.lt k hk).1).1 (HZ.out k (h1.lt k hk).1).2.1) fun k hk => hk.elim
    · have h1 := (str_flat (ok' := fun _ => False) HY.out.1).sl.mono (ok' := fun k => w0.heap.size ≤ k ∧ some k ≠ (Value.slice A3 r.fields.length c3).ownBlock) fun k hk _ => hk.elim (fun h => h.elim) fun h2 => ⟨Nat.le_trans HX.out.2.size (HY.out.1.lt k h2).1, fun e => by
        have h3 := (HY.out.1.lt k h2).1
        have h4 := (HX.out.1.lt k e.symm).2
        omega⟩
      exact (h1.move fun k hk _ => sets6 (HZ.out k hk.1).1 (HZ.out k hk.1).2.1).mono fun k hk _ => ⟨(HZ.out k hk.1).2.2, hk.2⟩
    · have hb := below_step HB.out (below_step HX.out.2 HY.out.2)
      exact below_set (below_set (below_set (below_set (below_set (below_set hb (Nat.le_refl _) _) (Nat.le_refl _) _) (Nat.le_succ _) _) (Nat.le_succ _) _) (Nat.le_succ _) _) (Nat.le_succ _) _
abbrev zrec : List Value := [.string ⟨#[]⟩, .int .i64 0, .slice none 0 0, .slice none 0 0]
/-- The boxes of Set: the record, the field, the result. -/
structure SetX (r : Rec) (f : Fld) (A1 A2 : Option Addr) (c1 c2 : Nat) (w W : World) : Prop where
  b0 : Bk W w.heap.size [.string r.id, .int .i64 r.cats, .slice A1 r.fields.length c1, .slice A2 r.refs.length c2]
  b1 : Bk W (w.heap.size + 1) (fldC f)
  b2 : Bk W (w.heap.size + 2) zrec
  f1 : fldR.Row W (fun _ => True) A1 r.fields
  f2 : str.Row W (fun _ => True) A2 r.refs
  bel : Below w.heap.size w W
theorem SetX.below {r : Rec} {f : Fld} {A1 A2 : Option Addr} {c1 c2 : Nat} {w W W' : World} (h : SetX r f A1 A2 c1 c2 w W) (hb : Below W.heap.size W W') : SetX r f A1 A2 c1 c2 w W' :=
  ⟨h.b0.below hb, h.b1.below hb, h.b2.below hb, h.f1.below hb, h.f2.below hb, below_step h.bel hb⟩
theorem setErr_a {r : Rec} {f : Fld} (h : recErr r ≠ 0) : setErr r f = recErr r ∧ setR r f = noRec := by
  have e : setErr r f = recErr r := if_pos h
  exact ⟨e, by unfold setR; rw [e, if_neg h]⟩
theorem setErr_b {r : Rec} {f : Fld} (h : recErr r = 0) (h1 : idOk f.key = false ∨ valOk f.val = false) : setErr r f = 3 ∧ setR r f = noRec := by
  have e : setErr r f = 3 := by unfold setErr; rw [if_neg (by simpa using h), if_pos h1]
  exact ⟨e, by unfold setR; rw [e]; rfl⟩
theorem setErr_c {r : Rec} {f : Fld} (h : recErr r = 0) (h1 : idOk f.key = true) (h2 : valOk f.val = true) (h3 : 6 < (setF r.fields f).length) : setErr r f = 2 ∧ setR r f = noRec := by
  have e : setErr r f = 2 := by unfold setErr; rw [if_neg (by simpa using h), if_neg (by simp [h1, h2]), if_pos h3]
  exact ⟨e, by unfold setR; rw [e]; rfl⟩
theorem setErr_d {r : Rec} {f : Fld} (h : recErr r = 0) (h1 : idOk f.key = true) (h2 : valOk f.val = true) (h3 : ¬ 6 < (setF r.fields f).length) : setErr r f = 0 ∧ setR r f = { r with fields := setF r.fields f } := by
  have e : setErr r f = 0 := by unfold setErr; rw [if_neg (by simpa using h), if_neg (by simp [h1, h2]), if_neg h3]
  exact ⟨e, by unfold setR; rw [if_pos e]⟩
def SetD (r : Rec) (f : Fld) (w : World) (e : Ending) (w' : World) : Prop :=
  ∃ v1 v2, e = .returned (.tuple #[.agg #[.string (setR r f).id, .int .i64 (setR r f).cats, v1, v2], .int .i64 (setErr r f)]) ∧ fldR.Sl w' (fun k => w.heap.size ≤ k) v1 (setR r f).fields ∧ str.Sl w' (fun k => w.heap.size ≤ k) v2 (setR r f).refs ∧ Below w.heap.size w w'
theorem SetD.bad {r : Rec} {f : Fld} {w w' : World} {e : Int} (h : setErr r f = e ∧ setR r f = noRec) (hb : Below w.heap.size w w') : SetD r f w (.returned (.tuple #[.agg #[.string ⟨#[]⟩, .int .i64 0, .slice none 0 0, .slice none 0 0], .int .i64 e])) w' := by
  unfold SetD
  rw [h.1, h.2]
  exact ⟨_, _, rfl, Sl.nil _ _ _, Sl.nil _ _ _, hb⟩
theorem below_four {w w1 : World} {k : Nat} (h : Below w.heap.size w w1) (hk : w.heap.size ≤ k) (c d e f : Value) : Below w.heap.size w ((((w1.setCell ⟨k, 0, none⟩ c).setCell ⟨k, 1, none⟩ d).setCell ⟨k, 2, none⟩ e).setCell ⟨k, 3, none⟩ f) :=
  below_set (below_set (below_set (below_set h hk _) hk _) hk _) hk _
theorem setS {w2 : World} {m k : Nat} {c d e f : Value} (h2 : k ≠ m) : ((((w2.setCell ⟨m, 0, none⟩ c).setCell ⟨m, 1, none⟩ d).setCell ⟨m, 2, none⟩ e).setCell ⟨m, 3, none⟩ f).heap[k]? = w2.heap[k]? := by
  rw [Below.heap_setCell _ _ _ k h2, Below.heap_setCell _ _ _ k h2, Below.heap_setCell _ _ _ k h2, Below.heap_setCell _ _ _ k h2]
theorem own_setF {w : World} {base g c n : Nat} {l : List Fld} (h : fldR.Own 46 w base (fun _ => False) (.slice (some ⟨g, 0, none⟩) n c) l) {i : Nat} (hi : i < l.length) (x : Fld) :
    fldR.Own 46 ((w.setCell ⟨g, i * 2, none⟩ (.string x.key)).setCell ⟨g, i * 2 + 1, none⟩ (.string x.val)) base (fun _ => False) (.slice (some ⟨g, 0, none⟩) n c) (l.set i x) := by
  obtain ⟨g2, cs, e, hn, hg, hbt, h1, h2, h3, h4⟩ := own_open h
  injection e with e1
  subst e1
  have hb2 := Bt.sets [.string x.key, .string x.val] (i * 2) hbt
  refine own_shut hg hb2 (by rw [List.length_set]; exact hn) h1 h2 (by rw [over_length]; exact h3) ?_
  have e2 : (over cs (i * 2) [.string x.key, .string x.val]).take (n * fldR.sz) = over (cs.take (n * fldR.sz)) (i * 2) [.string x.key, .string x.val] := over_take _ _ _ _ (by show i * 2 + 2 ≤ n * 2; omega)
  rw [e2]
  exact Reps.set (Reps.mono h4 fun p c h => fldK.2 (fldK.1 h)) (fldK.2 rfl) rfl i hi
set_option maxHeartbeats 4000000 in
set_option maxRecDepth 100000 in
theorem recSet (r : Rec) (f : Fld) (A1 A2 : Option Addr) (c1 c2 : Nat) (ok ok' : Nat → Prop) (w : World) (hf : fldR.Row w ok A1 r.fields) (hg : str.Row w ok' A2 r.refs) :
    Calls Tryd.prog 49 #[.agg #[.string r.id, .int .i64 r.cats, .slice A1 r.fields.length c1, .slice A2 r.refs.length c2], .agg #[.string f.key, .string f.val]] w (SetD r f w) := by
  have HX : Aside (SetX r f A1 A2 c1 c2 w (((w.alloc (.cells #[.string r.id, .int .i64 r.cats, .slice A1 r.fields.length c1, .slice A2 r.refs.length c2] 35)).alloc (.cells #[.string f.key, .string f.val] 46)).alloc (.cells #[.string ⟨#[]⟩, .int .i64 0, .slice none 0 0, .slice none 0 0] 35))) := ⟨by
    have hb : Below w.heap.size w (((w.alloc (.cells #[.string r.id, .int .i64 r.cats, .slice A1 r.fields.length c1, .slice A2 r.refs.length c2] 35)).alloc (.cells #[.string f.key, .string f.val] 46)).alloc (.cells #[.string ⟨#[]⟩, .int .i64 0, .slice none 0 0, .slice none 0 0] 35)) := (((Below.refl _ _).alloc (Nat.le_refl _) _).alloc (by simp) _).alloc (by simp; omega) _
    have e1 : (w.alloc (.cells #[.string r.id, .int .i64 r.cats, .slice A1 r.fields.length c1, .slice A2 r.refs.length c2] 35)).heap.size = w.heap.size + 1 := by simp
    have h1 := (Bk.made (w.alloc (.cells #[.string r.id, .int .i64 r.cats, .slice A1 r.fields.length c1, .slice A2 r.refs.length c2] 35)) (fldC f) 46).alloc (.cells #[.string ⟨#[]⟩, .int .i64 0, .slice none 0 0, .slice none 0 0] 35)
    have h2 := Bk.made ((w.alloc (.cells #[.string r.id, .int .i64 r.cats, .slice A1 r.fields.length c1, .slice A2 r.refs.length c2] 35)).alloc (.cells #[.string f.key, .string f.val] 46)) zrec 35
    rw [e1] at h1
    rw [show ((w.alloc (.cells #[.string r.id, .int .i64 r.cats, .slice A1 r.fields.length c1, .slice A2 r.refs.length c2] 35)).alloc (.cells #[.string f.key, .string f.val] 46)).heap.size = w.heap.size + 2 by simp] at h2
    exact ⟨((Bk.made w [.string r.id, .int .i64 r.cats, .slice A1 r.fields.length c1, .slice A2 r.refs.length c2] 35).alloc _).alloc _, h1, h2, (hf.mono fun _ _ _ => trivial).below hb, (hg.mono fun _ _ _ => trivial).below hb, hb⟩⟩
  clear hf hg
  go_enter Tryd.func49, Tryd.ntmps49
  go_upto_region 1 with fail
  generalize hW : ((w.alloc _).alloc _).alloc _ = W at HX ⊢
  clear hW
  have q0 := HX.out.b0.four
  go_wp2_with fail
  refine (recCheck r A1 A2 c1 c2 _ _ _ HX.out.f1 HX.out.f2).mono ?_
  rintro e w1 ⟨rfl, hb⟩
  have HX1 := Aside.mk (HX.out.below hb)
  clear HX q0 hb
  have p1 := HX1.out.b1.two
  have q1 := HX1.out.b2.four
  by_cases h0 : recErr r = 0
  case neg =>
    have HH := Aside.mk (setErr_a (f := f) h0)
    have g0 : (recErr r != 0) = true := by simp [h0]
    clear h0
    go_wp2_with fail
    refine bodyPost_ret (v := .tuple #[.agg #[.string ⟨#[]⟩, .int .i64 0, .slice none 0 0, .slice none 0 0], .int .i64 (recErr r)]) ?_ rfl (SetD.bad HH.out ?_)
    · simp [results, Tryd.results49, go_sem, q1]
    · exact below_four HX1.out.bel (by omega) _ _ _ _
  case pos =>
    have H0 := Aside.mk h0
    rw [h0]
    clear h0
    have HI := Aside.mk (recId f.key w1)
    have HV := Aside.mk (recValue f.val w1)
    cases hi : idOk f.key
    case false =>
      have HH := Aside.mk (setErr_b (f := f) H0.out (.inl hi))
      rw [hi] at HI
      clear hi
      go_wp2_with fail
      refine HI.out.mono ?_
      rintro e w2 ⟨rfl, rfl⟩
      go_wp2_with fail
      refine bodyPost_ret (v := .tuple #[.agg #[.string ⟨#[]⟩, .int .i64 0, .slice none 0 0, .slice none 0 0], .int .i64 3]) ?_ rfl (SetD.bad HH.out ?_)
      · simp [results, Tryd.results49, go_sem, q1]
      · exact below_four HX1.out.bel (by omega) _ _ _ _
    rw [hi] at HI
    cases hv : valOk f.val
    case false =>
      have HH := Aside.mk (setErr_b (f := f) H0.out (.inr hv))
      rw [hv] at HV
      clear hi hv
      go_wp2_with fail
      refine HI.out.mono ?_
      rintro e w2 ⟨rfl, rfl⟩
      go_wp2_with fail
      refine HV.out.mono ?_
      rintro e w2 ⟨rfl, rfl⟩
      go_wp2_with fail
      refine bodyPost_ret (v := .tuple #[.agg #[.string ⟨#[]⟩, .int .i64 0, .slice none 0 0, .slice none 0 0], .int .i64 3]) ?_ rfl (SetD.bad HH.out ?_)
      · simp [results, Tryd.results49, go_sem, q1]
      · exact below_four HX1.out.bel (by omega) _ _ _ _
    rw [hv] at HV
    have HIV := Aside.mk (And.intro hi hv)
    have hrk := rec_ok H0.out
    have HKS := Aside.mk (ksrt_of hrk.2.2.2.2.2.1)
    have HL6 := Aside.mk (And.intro hrk.2.2.2.1 hrk.2.2.2.2.1)
    clear hi hv hrk
    go_wp2_with fail
    refine HI.out.mono ?_
    rintro e w2 ⟨rfl, rfl⟩
    go_wp2_with fail
    refine HV.out.mono ?_
    rintro e w2 ⟨rfl, rfl⟩
    have q0 := HX1.out.b0.four
    clear HI HV q1 p1
    go_wp2_with fail
    refine (recCopiedO r A1 A2 c1 c2 _ _ w1 HX1.out.f1 HX1.out.f2 HL6.out.1 HL6.out.2).mono ?_
    rintro e w2 ⟨v1, v2, base, rfl, hb0, hb1, ho, hs2, hb⟩
    obtain ⟨X1, d1, rfl, hd1, hrw1⟩ := ho.sl
    obtain ⟨X2, d2, rfl, hd2, hrw2⟩ := hs2
    have hal : Below w2.heap.size w2 (w2.alloc (.cells #[.string r.id, .int .i64 r.cats, .slice X1 r.fields.length d1, .slice X2 r.refs.length d2] 35)) := (Below.refl _ _).alloc (Nat.le_refl _) _
    have HX2 := Aside.mk ((HX1.out.below hb).below hal)
    have HO2 := Aside.mk (ho.below hal)
    have HR2 := Aside.mk ((hrw2.mono (ok' := fun k => w.heap.size + 2 < k ∧ some k ≠ (Value.slice X1 r.fields.length d1).ownBlock ∧ k < w2.heap.size) fun k h1 h2 => ⟨by have := HX1.out.b2.lt; have := h1.1; omega, h1.2, h2⟩).below hal)
    have HOL : Aside (∀ k, (Value.slice X1 r.fields.length d1).ownBlock = some k → w.heap.size + 2 < k ∧ k < w2.heap.size) := ⟨fun k hk => by have := ho.lt k hk; have := HX1.out.b2.lt; omega⟩
    have HBS : Aside (w1.heap.size < base ∧ base ≤ w2.heap.size ∧ w.heap.size + 2 < w1.heap.size) := ⟨hb0, hb1, HX1.out.b2.lt⟩
    have HQ2 := Aside.mk (Bk.made w2 [.string r.id, .int .i64 r.cats, .slice X1 r.fields.length d1, .slice X2 r.refs.length d2] 35)
    have HD := Aside.mk (And.intro hd1 hd2)
    have HW1 := Aside.mk (HX1.out.bel)
    clear HX1 q0 hb0 hb1 ho hb hrw1 hrw2 hal hd1 hd2
    go_upto_region 7 with fail
    generalize hR : w2.heap.size = R at HQ2 HBS HR2 HOL ⊢
    have HRE := Aside.mk hR
    generalize hW2 : w2.alloc _ = w3 at HX2 HO2 HR2 HQ2 ⊢
    have HRL : Aside (R < w3.heap.size) := ⟨HQ2.out.lt⟩
    clear hR hW2 HRE
    have q3 := HQ2.out.four
    have p3 := HX2.out.b1.two
    go_wp2_with fail
    refine (searchF X1 d1 r.fields f.key _ w3 HO2.out.row.2.2 HKS.out (by have := HL6.out; omega)).mono ?_
    rintro e w4 ⟨rfl, hb⟩
    have HX4 := Aside.mk (HX2.out.below hb)
    have HO4 := Aside.mk (HO2.out.below hb)
    have HR4 := Aside.mk (HR2.out.below hb)
    have HQ4 := Aside.mk (HQ2.out.below hb)
    have HN4 := Aside.mk (Nat.lt_of_lt_of_le HRL.out hb.size)
    clear HX2 HO2 HR2 HQ2 hb q3 p3 HRL
    have q4 := HQ4.out.four
    have p4 := HX4.out.b1.two
    have z4 := HX4.out.b2.four
    cases hk : hasK r.fields f.key
    case true =>
      obtain ⟨hkn, hke⟩ := (hasK_at HKS.out).1 hk
      obtain ⟨hse, _, hsl⟩ := set_hit (f := f) HKS.out hkn hke
      have HH := Aside.mk (setErr_d H0.out HIV.out.1 HIV.out.2 (by rw [hsl]; have := HL6.out; omega))
      rw [hse] at HH
      clear hk hke hse hsl
      generalize keyN r.fields f.key = kn at hkn HH ⊢
      obtain ⟨ad, e1, _, x0, x1⟩ := fld_at HO4.out.row.2.2 hkn
      subst e1
      obtain ⟨g, cs, rfl, _, hg, hbt, _⟩ := own_open HO4.out
      have hfz : ∀ o, w4.frozen? ⟨g, o, none⟩ = false := fun o => hbt.frozen o
      rw [add_plain] at x0 x1
      simp only [Nat.zero_add] at x0 x1
      have hgk := HOL.out g rfl
      have hgR : g ≠ R := by omega
      have hgS : g ≠ w.heap.size + 2 := by omega
      have HOS := Aside.mk (own_setF HO4.out hkn f)
      have p0 : (0 : Int) ≤ (kn : Int) := by omega
      have p1 : (kn : Int) < (r.fields.length : Int) := by omega
      clear hg hbt hgk
      have hgS2 : w.heap.size + 2 ≠ g := fun e => hgS e.symm
      go_wp2_with fail
      refine bodyPost_ret (v := .tuple #[.agg #[.string r.id, .int .i64 r.cats, .slice (some ⟨g, 0, none⟩) r.fields.length d1, .slice X2 r.refs.length d2], .int .i64 0]) ?_ rfl ?_
      · simp [results, Tryd.results49, go_sem, z4, hgS, hgS2]
      · unfold SetD
        rw [HH.out.1, HH.out.2]
        have hgk := HOL.out g rfl
        refine ⟨_, _, rfl, ?_, ⟨_, _, rfl, HD.out.2, ?_⟩, below_four (below_set (below_set HX4.out.bel (show w.heap.size ≤ g by omega) _) (show w.heap.size ≤ g by omega) _) (by omega) _ _ _ _⟩
        · exact Sl.mono (ok := fun k => w.heap.size + 2 < k) ((HOS.out.sl.mono fun k hk _ => hk.elim False.elim fun h => (HOL.out k h).1).move fun k hk _ => setS (by omega)) fun k hk _ => by omega
        · refine (HR4.out.move fun k hk hl => (setS (m := w.heap.size + 2) (by omega)).trans ((Below.heap_setCell _ _ _ k ?_).trans (Below.heap_setCell _ _ _ k ?_))).mono fun k hk _ => by omega
          · exact fun e => hk.2.1 (by rw [show k = g from e]; rfl)
          · exact fun e => hk.2.1 (by rw [show k = g from e]; rfl)
    case false =>
      have hmiss : ∀ x ∈ r.fields, x.key ≠ f.key := fun x hx e => by
        obtain ⟨j, hj, rfl⟩ := List.getElem_of_mem hx
        rw [hasK_iff.2 ⟨j, hj, e⟩] at hk
        cases hk
      obtain ⟨hse, hsl⟩ := set_miss HKS.out hmiss
      clear hk hmiss
      by_cases h6 : r.fields.length = 6
      · have HH := Aside.mk (setErr_c H0.out HIV.out.1 HIV.out.2 (by rw [hsl]; omega))
        have g6 : ((r.fields.length : Int) == 6) = true := by simp; omega
        clear hse hsl h6
        go_wp2_with fail
        refine bodyPost_ret (v := .tuple #[.agg #[.string ⟨#[]⟩, .int .i64 0, .slice none 0 0, .slice none 0 0], .int .i64 2]) ?_ rfl (SetD.bad HH.out ?_)
        · simp [results, Tryd.results49, go_sem, z4]
        · exact below_four HX4.out.bel (by omega) _ _ _ _
      · have HH := Aside.mk (setErr_d H0.out HIV.out.1 HIV.out.2 (by rw [hsl]; have := HL6.out; omega))
        rw [hse] at HH
        have g6 : ((r.fields.length : Int) == 6) = false := beq_eq_false_iff_ne.2 (by omega)
        have hkl := (key_at (k := f.key) HKS.out).2.2
        clear hse hsl h6
        generalize keyN r.fields f.key = kn at hkl HH ⊢
        have hal : Below w4.heap.size w4 (w4.alloc (.cells #[.string f.key, .string f.val] 46)) := (Below.refl _ _).alloc (Nat.le_refl _) _
        have HI := Aside.mk (insF (.slice X1 r.fields.length d1) r.fields kn f base w4.heap.size _ (HO4.out.below hal) hkl (Nat.le_trans (Nat.le_trans HBS.out.2.1 (Nat.le_of_lt HN4.out)) hal.size) (Bk.made w4 (fldC f) 46) (fun k hk => by have := HOL.out k hk; have := HN4.out; omega) (by have := HL6.out; omega))
        have HKP : Aside (∀ w5, (w4.alloc (.cells #[.string f.key, .string f.val] 46)).grownBy w5 (Value.slice X1 r.fields.length d1).ownBlock → ∀ k, k < w4.heap.size → some k ≠ (Value.slice X1 r.fields.length d1).ownBlock → w5.heap[k]? = w4.heap[k]?) := ⟨fun w5 hg k hk hne => (hg.block k (Nat.lt_of_lt_of_le hk hal.size) hne).trans (hal.block k hk)⟩
        have HBL : Aside (∀ w5, (w4.alloc (.cells #[.string f.key, .string f.val] 46)).grownBy w5 (Value.slice X1 r.fields.length d1).ownBlock → Below w.heap.size w w5) := ⟨fun w5 hg => (below_step HX4.out.bel hal).grown hg (Nat.le_trans HX4.out.bel.size hal.size) fun k hk => by have := HOL.out k hk; omega⟩
        have HAL := Aside.mk hal
        clear hal
        go_wp2_with fail
        refine HI.out.mono ?_
        rintro e w5 ⟨v5, rfl, ho5, hg5, hat5⟩
        clear q4 p4 z4
        obtain ⟨X5, d5, rfl, hd5, _⟩ := ho5.sl
        have HK5 := Aside.mk (HKP.out w5 hg5)
        have HB5 := Aside.mk (HBL.out w5 hg5)
        have q5 : R < w5.heap.size ∧ _ := Bk.four (show Bk w5 R [.string r.id, .int .i64 r.cats, .slice X1 r.fields.length d1, .slice X2 r.refs.length d2] from by
          obtain ⟨t, e⟩ := HQ4.out
          exact ⟨t, (HK5.out R HN4.out fun e => by have := HOL.out R e.symm; omega).trans e⟩)
        have z5 : w.heap.size + 2 < w5.heap.size ∧ _ := Bk.four (show Bk w5 (w.heap.size + 2) zrec from by
          obtain ⟨t, e⟩ := HX4.out.b2
          exact ⟨t, (HK5.out _ HX4.out.b2.lt fun e => by have := HOL.out _ e.symm; omega).trans e⟩)
        have HO5 := Aside.mk ho5
        have HOL5 : Aside (∀ k, (Value.slice X5 (r.fields.take kn ++ f :: r.fields.drop kn).length d5).ownBlock = some k → w.heap.size + 2 < k ∧ k ≠ R) := ⟨fun k hk => by
          rcases hat5 with h | ⟨b, h, hb⟩
          · have := HOL.out k (h ▸ hk)
            omega
          · rw [h] at hk
            injection hk with hk
            have h1 := HN4.out
            have h2 := HAL.out.size
            have h3 := HBS.out
            omega⟩
        have hRS : R ≠ w.heap.size + 2 := by have := HBS.out; omega
        have hRS2 : w.heap.size + 2 ≠ R := fun e => hRS e.symm
        have hkk : (r.fields.take kn ++ f :: r.fields.drop kn).length = r.fields.length + 1 := by simp; omega
        have HKK := Aside.mk hkk
        generalize (r.fields.take kn ++ f :: r.fields.drop kn) = l5 at *
        clear ho5 hg5 hat5 HI HKP HBL hkk
        go_wp2_with fail
        refine bodyPost_ret (v := .tuple #[.agg #[.string r.id, .int .i64 r.cats, .slice X5 l5.length d5, .slice X2 r.refs.length d2], .int .i64 0]) ?_ rfl ?_
        · simp [results, Tryd.results49, go_sem, z5, hRS, hRS2]
        · unfold SetD
          rw [HH.out.1, HH.out.2]
          refine ⟨_, _, rfl, ?_, ⟨_, _, rfl, HD.out.2, ?_⟩, below_four (below_set HB5.out (show w.heap.size ≤ R by have := HBS.out; omega) _) (by omega) _ _ _ _⟩
          · exact Sl.mono (ok := fun k => w.heap.size + 2 < k ∧ k ≠ R) ((HO5.out.sl.mono fun k hk _ => hk.elim False.elim fun h => HOL5.out k h).move fun k hk _ => (setS (m := w.heap.size + 2) (by omega)).trans (Below.heap_setCell _ _ _ k hk.2)) fun k hk _ => by omega
          · refine (HR4.out.move fun k hk hl => (setS (m := w.heap.size + 2) (by omega)).trans ((Below.heap_setCell _ _ _ k ?_).trans (HK5.out k hl hk.2.1))).mono fun k hk _ => by omega
            show k ≠ R
            omega
end Go.Proofs.WK
