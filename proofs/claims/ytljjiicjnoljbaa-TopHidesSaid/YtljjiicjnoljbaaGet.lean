/-
  store.Get (P25).
-/
import Derived.Test.YtljjiicjnoljbaaPart
import Derived.Test.YtljjiicjnoljbaaDat
namespace Go.Proofs.WK
open Go.RowKit Rp
theorem zeroBoolG (w : World) : (zeroValue 4).run Try.prog w = .ok (.bool false) w := by kernel_rfl
noncomputable def eB : ET Try.prog 4 Bool := boolE Try.underlying4 zeroBoolG
theorem gone_put {l : List Ver} {id : ByteArray} {j : Nat} (hj : j < l.length) (hid : l[j].r.id = id) : (fun z => if z = l[j].r.cats then some true else goneF l id (j + 1) z) = goneF l id j := by
  funext z
  rw [goneF_drop hj]
  unfold hitV
  by_cases h : z = l[j].r.cats
  · subst h; simp [hid]
  · rw [if_neg h, if_neg (by simp [hid]; exact fun e => h e.symm)]
theorem gone_same {l : List Ver} {id : ByteArray} {j : Nat} (hj : j < l.length) (hid : ¬ l[j].r.id = id) : goneF l id (j + 1) = goneF l id j := by
  funext z
  rw [goneF_drop hj, if_neg (by unfold hitV; simp [hid])]
theorem gone_get (l : List Ver) (id : ByteArray) (m : Nat) (x : Int) : (goneF l id m x).getD eB.zero = true ∧ goneF l id m x = some true ∨ (goneF l id m x).getD eB.zero = false ∧ goneF l id m x = none := by
  unfold goneF
  split
  · exact .inl ⟨rfl, rfl⟩
  · exact .inr ⟨rfl, rfl⟩
theorem gone_start (l : List Ver) (id : ByteArray) : goneF l id l.length = fun _ => none := by
  funext z
  unfold goneF
  rw [List.drop_length]
  rfl
theorem eqS_t {a b : ByteArray} (h : a = b) : (a.toList == b.toList) = true := by rw [h]; simp
theorem eqS_g {a b : ByteArray} (h : ¬ a = b) : (a.toList == b.toList) = false := by rw [toList_beq]; simp [h]
def recCells (r : Rec) (v1 v2 : Value) : List Value := [.string r.id, .int .i64 r.cats, v1, v2]
theorem below_set4 {w w1 : World} {k : Nat} (h : Below w.heap.size w w1) (hk : w.heap.size ≤ k) (c d e f : Value) : Below w.heap.size w ((((w1.setCell ⟨k, 0, none⟩ c).setCell ⟨k, 1, none⟩ d).setCell ⟨k, 2, none⟩ e).setCell ⟨k, 3, none⟩ f) :=
  below_set (below_set (below_set (below_set h hk _) hk _) hk _) hk _
theorem sets4 {w2 : World} {m k : Nat} {c d e f : Value} (h2 : k ≠ m) : ((((w2.setCell ⟨m, 0, none⟩ c).setCell ⟨m, 1, none⟩ d).setCell ⟨m, 2, none⟩ e).setCell ⟨m, 3, none⟩ f).heap[k]? = w2.heap[k]? := by
  rw [Below.heap_setCell _ _ _ k h2, Below.heap_setCell _ _ _ k h2, Below.heap_setCell _ _ _ k h2, Below.heap_setCell _ _ _ k h2]
set_option maxHeartbeats 4000000 in
set_option maxRecDepth 100000 in
theorem storeGet (A : Option Addr) (c : Nat) (l : List Ver) (id : ByteArray) (ok : Nat → Prop) (w : World) (hr : verR.Row w ok A l) (hc : l.length ≤ c) :
    Calls Try.prog 102 #[.slice A l.length c, .string id] w fun e w' => ∃ v1 v2, e = .returned (.tuple #[.agg #[.string (getR l id).id, .int .i64 (getR l id).cats, v1, v2], .int .i64 (getErr l id)]) ∧
      fldR.Sl w' (fun k => w.heap.size ≤ k) v1 (getR l id).fields ∧ str.Sl w' (fun k => w.heap.size ≤ k) v2 (getR l id).refs ∧ Below w.heap.size w w' := by
  have hb1 : Below w.heap.size w (w.alloc (.cells #[.string ⟨#[]⟩, .int .i64 0, .slice none 0 0, .slice none 0 0] 58)) := (Below.refl _ _).alloc (Nat.le_refl _) _
  have hm := hr.1
  have HR := Aside.mk (hr.below hb1)
  have HQ := Aside.mk (Bk.made w [.string ⟨#[]⟩, .int .i64 0, .slice none 0 0, .slice none 0 0] 58)
  have HB := Aside.mk hb1
  have hmm := @run_makeMap Try.prog
  clear hr hb1
  by_cases h1 : storeErr l = 0
  · have H1 := Aside.mk h1
    clear h1
    go_enter Try.func102, Try.ntmps102
    go_wp2_with fail
    refine (storeCheck _ c l _ _ HR.out hc).mono ?_
    rw [H1.out]
    rintro e w1 ⟨rfl, hb⟩
    have HQ1 := Aside.mk (HQ.out.below hb)
    have HR1 := Aside.mk (HR.out.below hb)
    have HB1 := Aside.mk (below_step HB.out hb)
    clear hb HR HQ HB
    go_wp2_with fail
    have HSZ := Aside.mk HQ1.out.lt
    go_loopw [8] (fun i wr => ∃ m : Nat, m ≤ l.length ∧ i = .int .i64 ((m : Int) - 1) ∧ Aside (GetAt l id m) ∧ Aside (MapIs kI eB wr w1.heap.size (l.length - m) (goneF l id m)) ∧ Aside (Bk wr w.heap.size [.string ⟨#[]⟩, .int .i64 0, .slice none 0 0, .slice none 0 0]) ∧ Aside (Below w1.heap.size w1 wr)) (fun i _ => (intOf i + 1).toNat)
    case atStart => exact ⟨l.length, Nat.le_refl _, rfl, ⟨.start l id⟩, ⟨by rw [Nat.sub_self, gone_start]; exact MapIs.made _ _ _⟩, ⟨HQ1.out.alloc _⟩, ⟨(Below.refl _ _).alloc (Nat.le_refl _) _⟩⟩
    case round =>
      clear hmm
      obtain ⟨m, hml, rfl, HK, HM, HQ2, HB2⟩ := hrel
      cases m with
      | zero =>
        have HX := Aside.mk (get_none H1.out HK.out.none)
        have q0 := HQ2.out.four
        rw [show (((0 : Nat) : Int) - 1) = -1 from rfl]
        go_wp2_with fail
        refine bodyPost_ret (v := .tuple #[.agg #[.string ⟨#[]⟩, .int .i64 0, .slice none 0 0, .slice none 0 0], .int .i64 4]) ?_ rfl ⟨.slice none 0 0, .slice none 0 0, by rw [HX.out.1, HX.out.2]; rfl, by rw [HX.out.2]; exact Sl.nil _ _ _, by rw [HX.out.2]; exact Sl.nil _ _ _, ?_⟩
        · simp [results, Try.results102, go_sem, q0]
        · exact below_set4 (below_step HB1.out HB2.out) (Nat.le_refl _) _ _ _ _
      | succ j =>
        rw [show (((j + 1 : Nat) : Int) - 1) = (j : Int) by omega]
        have hj : j < l.length := by omega
        have p0 : (0 : Int) ≤ (j : Int) := by omega
        have p1 : (j : Int) < (l.length : Int) := by omega
        obtain ⟨ad, A1, c1, A2, c2, rfl, _, x0, x1, x2, x3, x4, _, _, r1, r2⟩ := ver_at (HR1.out.below HB2.out) hj
        have hal : Below wr.heap.size wr (wr.alloc (.cells #[.string l[j].r.id, .int .i64 l[j].r.cats, .slice A1 l[j].r.fields.length c1, .slice A2 l[j].r.refs.length c2, .bool l[j].gone] 129)) := (Below.refl _ _).alloc (Nat.le_refl _) _
        have HB3 := Aside.mk (below_step HB2.out hal)
        have HM3 := Aside.mk (HM.out.below hal)
        have HQ3 := Aside.mk (HQ2.out.below hal)
        have hrec := rec_ok (store_rec H1.out l[j] (List.getElem_mem hj))
        have hc0 := hrec.2.1
        have hc1 := hrec.2.2.1
        have HRC := Aside.mk hrec
        have HR1' := Aside.mk (r1.below hal)
        have HR2' := Aside.mk (r2.below hal)
        clear hrec r1 r2
        by_cases hid : l[j].r.id = id
        · have b1 : (l[j].r.id.toList == id.toList) = true := eqS_t hid
          have kok := Aside.mk (i64_wf (x := l[j].r.cats) (by omega) (by omega))
          have ek : ∀ z, kI.kv z = Value.int .i64 z := fun _ => rfl
          have ee : ∀ z, eB.ev z = Value.bool z := fun _ => rfl
          have hbk := HM3.out.lt
          have hlen5 := (store_ok H1.out).1
          obtain ⟨cN, hcN⟩ := Int.eq_ofNat_of_zero_le hc0
          have hcN2 : cN < 256 := by omega
          have HhN := Aside.mk (show hitV l[j] id (cN : Int) = true by unfold hitV; rw [← hcN]; simp [hid])
          have HCN := Aside.mk (And.intro hcN hcN2)
          have HPUT := Aside.mk (gone_put hj hid)
          have HID := Aside.mk hid
          have hnoput : Aside ((l[j].gone = true ∨ goneF l id (j + 1) l[j].r.cats = some true) → GetAt l id j) := ⟨fun h => HK.out.other hj fun c' _ hh => by
            unfold hitV at hh
            simp only [Bool.and_eq_true, decide_eq_true_eq] at hh
            rw [← hh.2]
            exact h⟩
          have HNEb : Aside (some w.heap.size ≠ some w1.heap.size) := ⟨by simp; have := HSZ.out; omega⟩
          have HN : Aside (l.length - (j + 1) < maxLen) := ⟨by unfold maxLen; omega⟩
          clear hal hid hbk hc0 hc1 hcN hcN2 hlen5
          have hstep : ∀ W, Aside (MapIs kI eB W w1.heap.size (l.length - (j + 1) + 1) (goneF l id j)) → Aside (MapIs kI eB W w1.heap.size (l.length - j) (goneF l id j)) := fun W h => by
            rwa [show l.length - (j + 1) + 1 = l.length - j by omega] at h
          have HST := Aside.mk hstep
          clear hstep
          cases hg : l[j].gone with
          | true =>
            rw [hg] at x4 HM3 HQ3 HB3 HR1' HR2'
            have HG := Aside.mk (hnoput.out (.inl hg))
            go_wp2_with (at_mapUpdate; refine map_put (K := kI) (E := eB) rfl _ _ _ rfl Try.underlying103 rfl HM3.out HN.out l[j].r.cats rfl kok.out true rfl trivial ?_
                         intro w3 hm3 hg3
                         rw [HPUT.out] at hm3
                         have HM4 := HST.out w3 ⟨hm3⟩
                         have HQ4 := Aside.mk (HQ3.out.grown hg3 HNEb.out)
                         have HB4 := Aside.mk (HB3.out.grown hg3 HB3.out.size (fun j hj => by cases hj; exact Nat.le_refl _))
                         clear hm3 hg3)
            refine ⟨⟨j, by omega, rfl, HG, HM4, HQ4, HB4⟩, by simp [intOf]⟩
          | false =>
            rw [hg] at x4 HM3 HQ3 HB3 HR1' HR2'
            rcases gone_get l id (j + 1) l[j].r.cats with ⟨g1, g2⟩ | ⟨g1, g2⟩
            · have HG := Aside.mk (hnoput.out (.inr g2))
              clear g2
              have hlk := map_run Try.underlying103 HM3.out l[j].r.cats kok.out
              rw [g1] at hlk
              simp only [ek, ee] at hlk
              go_wp2_with (first
                | (at_mapUpdate; refine map_put (K := kI) (E := eB) rfl _ _ _ rfl Try.underlying103 rfl HM3.out HN.out l[j].r.cats rfl kok.out true rfl trivial ?_
                   intro w3 hm3 hg3
                   rw [HPUT.out] at hm3
                   have HM4 := HST.out w3 ⟨hm3⟩
                   have HQ4 := Aside.mk (HQ3.out.grown hg3 HNEb.out)
                   have HB4 := Aside.mk (HB3.out.grown hg3 HB3.out.size (fun j hj => by cases hj; exact Nat.le_refl _))
                   clear hm3 hg3))
              refine ⟨⟨j, by omega, rfl, HG, HM4, HQ4, HB4⟩, by simp [intOf]⟩
            · have HG := Aside.mk (get_hit H1.out hj (HK.out.hit hj HCN.out.2 HhN.out hg (by rw [← HCN.out.1]; exact g2)))
              have HRC1 := Aside.mk HRC.out.2.2.2.1
              have HRC2 := Aside.mk HRC.out.2.2.2.2.1
              clear g2
              have hlk := map_run Try.underlying103 HM3.out l[j].r.cats kok.out
              rw [g1] at hlk
              simp only [ek, ee] at hlk
              go_wp2_with fail
              refine (recCopied l[j].r _ _ _ _ _ _ _ HR1'.out HR2'.out HRC1.out HRC2.out).mono ?_
              rintro e w4 ⟨v1, v2, rfl, s1, s2, hb⟩
              obtain ⟨A3, c3, rfl⟩ := Sl.form s1
              obtain ⟨A4, c4, rfl⟩ := Sl.form s2
              have q4 := (HQ3.out.below hb).four
              have HB4 := Aside.mk (below_step HB1.out (below_step HB3.out hb))
              have HSS := Aside.mk (And.intro s1 s2)
              have HW3 := Aside.mk (Nat.le_trans HB1.out.size HB3.out.size)
              have HW4 := Aside.mk (Nat.lt_of_lt_of_le HSZ.out HB3.out.size)
              clear hb s1 s2
              go_wp2_with fail
              refine bodyPost_ret (v := .tuple #[.agg #[.string l[j].r.id, .int .i64 l[j].r.cats, .slice A3 l[j].r.fields.length c3, .slice A4 l[j].r.refs.length c4], .int .i64 0]) ?_ rfl ⟨.slice A3 l[j].r.fields.length c3, .slice A4 l[j].r.refs.length c4, by rw [HG.out.1, HG.out.2], ?_, ?_, ?_⟩
              · simp [results, Try.results102, go_sem, q4]
              · rw [HG.out.2]
                exact (HSS.out.1.move fun k hk _ => sets4 (fun e => by have := HW4.out; omega)).mono fun k hk _ => Nat.le_trans HW3.out hk
              · rw [HG.out.2]
                exact (HSS.out.2.move fun k hk _ => sets4 (fun e => by have := HW4.out; omega)).mono fun k hk _ => Nat.le_trans HW3.out hk
              · exact below_set4 HB4.out (Nat.le_refl _) _ _ _ _
        · have b1 : (l[j].r.id.toList == id.toList) = false := eqS_g hid
          have HSM := Aside.mk (gone_same hj hid)
          have HG := Aside.mk (HK.out.other hj fun c' _ hh => by unfold hitV at hh; simp [hid] at hh)
          have HM4 : Aside (MapIs kI eB (wr.alloc (.cells #[.string l[j].r.id, .int .i64 l[j].r.cats, .slice A1 l[j].r.fields.length c1, .slice A2 l[j].r.refs.length c2, .bool l[j].gone] 129)) w1.heap.size (l.length - j) (goneF l id j)) := ⟨by
            rw [← HSM.out]
            obtain ⟨D, d1, d2⟩ := HM3.out
            exact ⟨D, d1.mono (by omega), d2⟩⟩
          clear hal hid hc0 hc1
          go_wp2_with fail
          refine ⟨⟨j, by omega, rfl, HG, HM4, HQ3, HB3⟩, by simp [intOf]⟩
  · have e1 : getErr l id = storeErr l := if_pos h1
    have e2 : getR l id = noRec := by rw [getR, e1, if_neg h1]
    have g3 : (storeErr l != 0) = true := by simp [h1]
    rw [e1, e2]
    clear e1 e2 h1 hmm
    go_enter Try.func102, Try.ntmps102
    go_wp2_with fail
    refine (storeCheck _ c l _ _ HR.out hc).mono ?_
    rintro e w1 ⟨rfl, hb⟩
    have q1 := (HQ.out.below hb).four
    have HB1 := Aside.mk (below_step HB.out hb)
    clear hb
    go_wp2_with fail
    refine bodyPost_ret (v := .tuple #[.agg #[.string ⟨#[]⟩, .int .i64 0, .slice none 0 0, .slice none 0 0], .int .i64 (storeErr l)]) ?_ rfl ⟨.slice none 0 0, .slice none 0 0, rfl, Sl.nil _ _ _, Sl.nil _ _ _, ?_⟩
    · simp [results, Try.results102, go_sem, q1]
    · exact below_set4 HB1.out (Nat.le_refl _) _ _ _ _
end Go.Proofs.WK
