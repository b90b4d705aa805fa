/-
  wyref.Set (P18, as the document's answer).
-/
import Derived.Test.YtljjiicjnoljbaaDoorRecSet
import Derived.Test.YtljjiicjnoljbaaDoorRefIds
namespace Go.Proofs.WK
open Go.RowKit Go.Maps Rp
theorem zeroStrG (w : World) : (zeroValue 9).run Tryd.prog w = .ok (.string ByteArray.empty) w := by kernel_rfl
noncomputable def eS : ET Tryd.prog 9 ByteArray := strE Tryd.underlying9 zeroStrG
/-- A map literal's 'k: v'. -/
theorem map_ins {P : Program} {k e t : TypeId} {κ ε : Type} {K : KT P k κ} {E : ET P e ε} {w : World} {b n : Nat} {f : κ → Option ε} [DecidableEq κ] (ht : P.underlying t = some (.map k e)) (h : MapIs K E w b n f) (hn : n < maxLen) (key : κ) (hkey : K.okk key) (y : ε) (hy : E.oke y) :
    ∃ w', (Instr.mapUpdate t (.map (some b)) (K.kv key) (E.ev y)).run P w = .ok () w' ∧ MapIs K E w' b (n + 1) (fun z => if z = key then some y else f z) ∧ w.grownBy w' (some b) := by
  obtain ⟨D, h1, h2⟩ := h
  have hD : IsMap D := by obtain ⟨es, clock, _, _, _, rfl⟩ := h1; exact ⟨_, rfl⟩
  obtain ⟨w', hrun, r1, r2⟩ := h1.update K.law ht hn (K.key key hkey) (E.elem y hy)
  exact ⟨w', hrun, ⟨_, r1, says_put hD h2 key hkey y⟩, r2⟩
/-- What the document's Set holds: the boxes, and what came in. -/
theorem SetX.start {r : Rec} {f : Fld} {A1 A2 : Option Addr} {c1 c2 : Nat} {w : World} {ok ok' : Nat → Prop} (hf : fldR.Row w ok A1 r.fields) (hg : str.Row w ok' A2 r.refs) :
    SetX r f A1 A2 c1 c2 w (((w.alloc (.cells #[.string r.id, .int .i64 r.cats, .slice A1 r.fields.length c1, .slice A2 r.refs.length c2] 35)).alloc (.cells #[.string f.key, .string f.val] 46)).alloc (.cells #[.string ⟨#[]⟩, .int .i64 0, .slice none 0 0, .slice none 0 0] 35)) := by
  have hb : Below w.heap.size w (((w.alloc (.cells #[.string r.id, .int .i64 r.cats, .slice A1 r.fields.length c1, .slice A2 r.refs.length c2] 35)).alloc (.cells #[.string f.key, .string f.val] 46)).alloc (.cells #[.string ⟨#[]⟩, .int .i64 0, .slice none 0 0, .slice none 0 0] 35)) := (((Below.refl _ _).alloc (Nat.le_refl _) _).alloc (by simp) _).alloc (by simp; omega) _
  have e1 : (w.alloc (.cells #[.string r.id, .int .i64 r.cats, .slice A1 r.fields.length c1, .slice A2 r.refs.length c2] 35)).heap.size = w.heap.size + 1 := by simp
  have h1 := (Bk.made (w.alloc (.cells #[.string r.id, .int .i64 r.cats, .slice A1 r.fields.length c1, .slice A2 r.refs.length c2] 35)) (fldC f) 46).alloc (.cells #[.string ⟨#[]⟩, .int .i64 0, .slice none 0 0, .slice none 0 0] 35)
  have h2 := Bk.made ((w.alloc (.cells #[.string r.id, .int .i64 r.cats, .slice A1 r.fields.length c1, .slice A2 r.refs.length c2] 35)).alloc (.cells #[.string f.key, .string f.val] 46)) zrec 35
  rw [e1] at h1
  rw [show ((w.alloc (.cells #[.string r.id, .int .i64 r.cats, .slice A1 r.fields.length c1, .slice A2 r.refs.length c2] 35)).alloc (.cells #[.string f.key, .string f.val] 46)).heap.size = w.heap.size + 2 by simp] at h2
  exact ⟨((Bk.made w [.string r.id, .int .i64 r.cats, .slice A1 r.fields.length c1, .slice A2 r.refs.length c2] 35).alloc _).alloc _, h1, h2, (hf.mono fun _ _ _ => trivial).below hb, (hg.mono fun _ _ _ => trivial).below hb, hb⟩
theorem flds_each_ {l : List Fld} (h : fldsOk l = true) : ∀ g ∈ l, idOk g.key = true ∧ valOk g.val = true := by
  unfold fldsOk at h
  rw [Bool.and_eq_true] at h
  intro g hg
  have := List.all_eq_true.1 h.1 g hg
  unfold fldOk at this
  rwa [Bool.and_eq_true] at this
theorem val_oke {s : ByteArray} (h : valOk s = true) : eS.oke s := by
  unfold valOk at h
  rw [Bool.and_eq_true, decide_eq_true_eq] at h
  show s.size ≤ maxLen
  have := h.1
  unfold maxLen
  omega
/-- The boxes alone. -/
structure SetY (r : Rec) (f : Fld) (A1 A2 : Option Addr) (c1 c2 : Nat) (w W : World) : Prop where
  b0 : Bk W w.heap.size [.string r.id, .int .i64 r.cats, .slice A1 r.fields.length c1, .slice A2 r.refs.length c2]
  b1 : Bk W (w.heap.size + 1) (fldC f)
  b2 : Bk W (w.heap.size + 2) zrec
  bel : Below w.heap.size w W
variable {r : Rec} {f : Fld} {A1 A2 : Option Addr} {c1 c2 : Nat} {w W W' : World}
theorem SetX.y (h : SetX r f A1 A2 c1 c2 w W) : SetY r f A1 A2 c1 c2 w W := ⟨h.b0, h.b1, h.b2, h.bel⟩
theorem SetY.below (h : SetY r f A1 A2 c1 c2 w W) (hb : Below W.heap.size W W') : SetY r f A1 A2 c1 c2 w W' :=
  ⟨h.b0.below hb, h.b1.below hb, h.b2.below hb, below_step h.bel hb⟩
theorem bk_grown {n : Nat} {cs : List Value} {row : Option Nat} (h : Bk W n cs) (hg : W.grownBy W' row) (hn : some n ≠ row) : Bk W' n cs := by
  obtain ⟨t, e⟩ := h
  exact ⟨t, (hg.block n (Array.getElem?_eq_some_iff.1 e).1 hn).trans e⟩
theorem SetY.grown (h : SetY r f A1 A2 c1 c2 w W) {row : Option Nat} (hg : W.grownBy W' row) (hM : ∀ k, row = some k → w.heap.size + 2 < k) : SetY r f A1 A2 c1 c2 w W' :=
  ⟨bk_grown h.b0 hg fun e => by have := hM _ e.symm; omega, bk_grown h.b1 hg fun e => by have := hM _ e.symm; omega, bk_grown h.b2 hg fun e => by have := hM _ e.symm; omega, h.bel.grown hg h.bel.size fun k hk => by have := hM k hk; omega⟩
theorem setF_len (l : List Fld) (f : Fld) : (setF l f).length ≤ l.length + 1 := by
  have h : ∀ l : List Fld, (below_ l f.key).length + (above_ l f.key).length ≤ l.length := by
    intro l
    induction l with
    | nil => exact Nat.le_refl _
    | cons a l ih =>
      rw [below_cons, above_cons]
      by_cases h1 : slt a.key f.key = true
      · rw [if_pos h1, if_neg (by rw [slt_asymm h1]; decide)]
        simp
        omega
      · rw [if_neg h1]
        split
        · simp; omega
        · simp; omega
  have := h l
  unfold setF
  simp
  omega
theorem mapIs_more {b n : Nat} {g : ByteArray → Option ByteArray} (h : MapIs kS eS W b n g) : MapIs kS eS W b (n + 1) g := by
  obtain ⟨D, d1, d2⟩ := h
  exact ⟨D, d1.mono (by omega), d2⟩
set_option maxHeartbeats 8000000 in
set_option maxRecDepth 100000 in
theorem refSet (r : Rec) (f : Fld) (A1 A2 : Option Addr) (c1 c2 : Nat) (hc2 : r.refs.length ≤ c2) (ok ok' : Nat → Prop) (w : World) (hf : fldR.Row w ok A1 r.fields) (hg : str.Row w ok' A2 r.refs) (h0 : recErr r = 0) (hk : idOk f.key = true) (hv : valOk f.val = true) :
    Calls Tryd.prog 54 #[.agg #[.string r.id, .int .i64 r.cats, .slice A1 r.fields.length c1, .slice A2 r.refs.length c2], .agg #[.string f.key, .string f.val]] w fun e w' =>
      ∃ v1 v2, e = .returned (.tuple #[.agg #[.string (setR r f).id, .int .i64 (setR r f).cats, v1, v2], .int .i64 (setErr r f)]) ∧ fldR.Sl w' (fun _ => True) v1 (setR r f).fields ∧ str.Sl w' (fun _ => True) v2 (setR r f).refs ∧ Below w.heap.size w w' := by
  have HX := Aside.mk (SetX.start (f := f) (c1 := c1) (c2 := c2) hf hg)
  have HF := Aside.mk (hf.mono (ok' := fun k => k < w.heap.size) fun k _ h => h)
  have HG := Aside.mk (hg.mono (ok' := fun k => k < w.heap.size) fun k _ h => h)
  have hmm := @run_makeMap Tryd.prog
  have hrk := rec_ok h0
  have HKS := Aside.mk (ksrt_of hrk.2.2.2.2.2.1)
  have HFL := Aside.mk (flds_each_ hrk.2.2.2.2.2.1)
  have HL6 := Aside.mk (show r.fields.length ≤ 6 ∧ r.refs.length ≤ c2 from ⟨hrk.2.2.2.1, hc2⟩)
  have HH := Aside.mk (And.intro h0 (And.intro hk hv))
  have HVO : Aside (kS.okk f.key ∧ eS.oke f.val) := ⟨kS_ok hk, val_oke hv⟩
  clear hf hg hrk h0 hk hv hc2
  go_enter Tryd.func54, Tryd.ntmps54
  go_upto_region 1 with fail
  generalize hW : ((w.alloc _).alloc _).alloc _ = W at HX ⊢
  clear hW
  have HMM := Aside.mk (MapIs.made kS eS W)
  obtain ⟨w1, hrun, hm1, hg1⟩ := map_ins (t := 121) Tryd.underlying121 HMM.out (by unfold maxLen; omega) f.key HVO.out.1 f.val HVO.out.2
  have hrun2 : (Instr.mapUpdate 121 (.map (some W.heap.size)) (.string f.key) (.string f.val)).run Tryd.prog (W.alloc (.map #[] 0)) = .ok () w1 := hrun
  have p0 := HX.out.b1.two
  have HM0 : Aside (∃ M, M = W.heap.size ∧ w.heap.size + 2 < M ∧ MapIs kS eS w1 M 1 (mapK r.fields f 0) ∧ SetY r f A1 A2 c1 c2 w w1 ∧ M < w1.heap.size) := ⟨_, rfl, HX.out.b2.lt, hm1, (HX.out.y.below ((Below.refl _ _).alloc (Nat.le_refl _) _)).grown hg1 (fun k hk => by injection hk with hk; have := HX.out.b2.lt; omega), hm1.lt⟩
  clear hrun hm1 hg1 HMM
  go_upto_region 2 with fail
  obtain ⟨M, hM, hM2, hm1, hy1, hMl⟩ := HM0.out
  rw [← hM]
  have HM1 := Aside.mk hm1
  have HY1 := Aside.mk hy1
  have HML := Aside.mk hM2
  have q1 := hy1.b0.four
  clear hrun2 HM0 HX hM hM2 hm1 hy1 p0 hmm
  go_wp2_with fail
  go_loopw [23] (fun i wr => ∃ k : Nat, k ≤ r.fields.length ∧ i = .int .i64 k ∧ Aside (MapIs kS eS wr M (k + 1) (mapK r.fields f k)) ∧ Aside (SetY r f A1 A2 c1 c2 w wr)) (fun i _ => r.fields.length - (intOf i).toNat)
  case atStart => exact ⟨0, Nat.zero_le _, rfl, HM1, HY1⟩
  case round =>
    clear q1 HM1 HY1
    obtain ⟨k, hk, rfl, HM, HY⟩ := hrel
    have p1 := HY.out.b1.two
    have hL5 : r.fields.length ≤ 6 := HL6.out.1
    by_cases hlt : k < r.fields.length
    · have i0 : (0 : Int) ≤ (k : Int) := by omega
      have i1 : (k : Int) < (r.fields.length : Int) := by omega
      obtain ⟨ad, rfl, _, x0, x1⟩ := fld_at (HF.out.below HY.out.bel) hlt
      have hal : Below wr.heap.size wr (wr.alloc (.cells #[.string r.fields[k].key, .string r.fields[k].val] 46)) := (Below.refl _ _).alloc (Nat.le_refl _) _
      have HMa := Aside.mk (HM.out.below hal)
      have HYa := Aside.mk (HY.out.below hal)
      have HQa := Aside.mk (Bk.made wr [.string r.fields[k].key, .string r.fields[k].val] 46)
      have hok := HFL.out _ (List.getElem_mem hlt)
      have HKO := Aside.mk (And.intro (kS_ok hok.1) (val_oke hok.2))
      have HN : Aside (k + 1 < maxLen) := ⟨by have := HL6.out.1; unfold maxLen; omega⟩
      clear hal hok
      by_cases hke : r.fields[k].key = f.key
      · have g1 : (r.fields[k].key.toList == f.key.toList) = true := eqS_b' hke
        have HM2 : Aside (MapIs kS eS (wr.alloc (.cells #[.string r.fields[k].key, .string r.fields[k].val] 46)) M (k + 1 + 1) (mapK r.fields f (k + 1))) := ⟨by rw [mapK_same hlt hke]; exact mapIs_more HMa.out⟩
        clear hke
        go_wp2_with fail
        exact ⟨⟨k + 1, by omega, by go_num, HM2, HYa⟩, by simp [intOf]; omega⟩
      · have g1 : (r.fields[k].key.toList == f.key.toList) = false := eqS_f' hke
        have HP := Aside.mk (mapK_put (f := f) hlt hke)
        clear hke
        go_wp2_with (at_mapUpdate; refine map_put (K := kS) (E := eS) rfl _ _ _ rfl Tryd.underlying121 rfl HMa.out HN.out r.fields[k].key rfl HKO.out.1 r.fields[k].val rfl HKO.out.2 ?_
                     intro w3 hm3 hg3
                     rw [← HP.out] at hm3
                     have HM3 := Aside.mk hm3
                     have HY3 := Aside.mk (HYa.out.grown hg3 (fun j hj => by injection hj with hj; have := HML.out; omega))
                     clear hm3 hg3)
        exact ⟨⟨k + 1, by omega, by go_num, HM3, HY3⟩, by simp [intOf]; omega⟩
    · obtain rfl : k = r.fields.length := by omega
      have HMV : Aside (MapIs kS eS wr M (r.fields.length + 1) (mapV r.fields f)) := ⟨HM.out⟩
      clear HM p1
      go_wp2_with (at_range; refine map_range (K := kS) (E := eS) rfl _ rfl Tryd.underlying121 rfl HMV.out ?_; intro w2 hrg hb2; have HR2 := Aside.mk hrg; have HY2 := Aside.mk (HY.out.below hb2); clear hrg hb2)
      have hmw : M < wr.heap.size := HMV.out.lt
      have hg22 := HR2.out.lt
      clear HY HMV
      generalize hg2 : wr.heap.size = g at *
      clear hg2
      have HMW : Aside (w.heap.size + 2 < M ∧ M < g) := ⟨HML.out, hmw⟩
      have ek : ∀ z, kS.kv z = Value.string z := fun _ => rfl
      have ee : ∀ z, eS.ev z = Value.string z := fun _ => rfl
      clear hmw hg22
      go_frame
      go_loopw [9] (fun o wr => ∃ (left : ByteArray → Prop) (xs : List ByteArray), Aside (Ranging kS eS wr M g (r.fields.length + 1) (mapV r.fields f) left) ∧ Aside (str.Own 9 wr (g + 1) (fun _ => False) o xs) ∧ Aside (xs.Nodup ∧ (∀ z ∈ xs, kS.okk z) ∧ ∀ z, kS.okk z → (z ∈ xs ↔ (mapV r.fields f z).isSome = true ∧ ¬ left z)) ∧ Aside (SetY r f A1 A2 c1 c2 w wr)) (fun _ wr => wr.rangeLeft M g)
      case atStart => exact ⟨_, [], HR2, ⟨Own.nil _ _ _ _ _⟩, ⟨⟨List.nodup_nil, fun _ h => (List.not_mem_nil h).elim, fun z _ => ⟨fun h => (List.not_mem_nil h).elim, fun h => absurd h.1 h.2⟩⟩⟩, HY2⟩
      case round =>
        clear HR2 HY2
        obtain ⟨left, xs, HR2, HO, HS, HY2⟩ := hrel
        obtain ⟨Ao, co, rfl, _⟩ := HO.out.sl
        have hxl : xs.length ≤ 7 := by
          have h1 : xs.length ≤ ((setF r.fields f).map (·.key)).length := nodup_le HS.out.1 fun z hz => (mapV_some HKS.out z).1 ((HS.out.2.2 z (HS.out.2.1 z hz)).1 hz).1
          have h2 := setF_len r.fields f
          rw [List.length_map] at h1
          omega
        have HXL : Aside ((xs.length + 1) * 16 ≤ 140737488355328) := ⟨by omega⟩
        have HX62 : Aside (xs.length < 4611686018427387904) := ⟨by omega⟩
        have HGL := Aside.mk HR2.out.lt
        have HNE : Aside (∀ j, ((Value.slice Ao xs.length co).ownBlock = some j) → g + 1 ≤ j) := ⟨fun j hj => (HO.out.lt j hj).1⟩
        have q2 := HY2.out.b0.four
        clear hxl
        go_wp2_with (first
          | (at_next; refine map_next (K := kS) (E := eS) rfl _ rfl rfl HR2.out ?_ ?_; all_goals (first | (intro z v w3 hz hlz hf hrg hlt hgr hsz hen; have HZ := Aside.mk (And.intro hz (And.intro hlz hf)); have HR3 := Aside.mk hrg; have HL3 := Aside.mk hlt; have HY3 := Aside.mk (HY2.out.grown hgr (fun j hj => by cases hj; have := HMW.out; omega)); have HO3 := Aside.mk (HO.out.grown hgr (fun j hj e => by have := HNE.out j hj; injection e with e; omega) (fun _ h => h.elim)); have HS3 := Aside.mk hsz; clear hz hlz hf hrg hlt hgr hsz) | (intro hdone; have HD := Aside.mk hdone; clear hdone)))
          | (at_builtin
             refine list_one (w0 := w3.alloc (.cells #[.string z] 9)) str (g + 1) rfl (.tmp 44) (.tmp 46) 33 9 (.string ByteArray.empty) 16 rfl Tryd.underlying33 infoSt rfl Nat.one_pos (Nat.succ_pos _) (.slice Ao xs.length co) xs z [.string z] (fun _ => False) w3.heap.size 1 rfl rfl (blk_new w3 _ _) rfl (HO3.out.below ((Below.refl _ _).alloc (Nat.le_refl _) _)) (Below.refl _ _) (by have := HGL.out; have := HS3.out; simp; omega) HXL.out ?_
             intro v1 w5 HO1 HB1 hg hat
             have HO5 := Aside.mk HO1
             have hn1 : some M ≠ (Value.slice Ao xs.length co).ownBlock := fun e => by have := HNE.out _ e.symm; have := HMW.out; omega
             have hn2 : some g ≠ (Value.slice Ao xs.length co).ownBlock := fun e => by have := HNE.out _ e.symm; omega
             have hra := HR3.out.below (w' := w3.alloc (.cells #[.string z] 9)) ((Below.refl _ _).alloc (Nat.le_refl _) _)
             have HR5 := Aside.mk (hra.kept hg hn1 hn2)
             have HL5 := Aside.mk ((hra.left_kept hg hn1 hn2).trans (HR3.out.left_below ((Below.refl _ _).alloc (Nat.le_refl _) _)))
             have HY5 := Aside.mk ((HY3.out.below ((Below.refl _ _).alloc (Nat.le_refl _) _)).grown hg (fun j hj => by have := HNE.out j hj; have := HMW.out; omega))
             clear HO1 HB1 hg hat hn1 hn2 hra))
        · refine (sortStrL _ _ _ _ _ _ HO.out HX62.out).mono ?_
          rintro e w3 ⟨rfl, ho, hg⟩
          have hE : sortS xs = (setF r.fields f).map (·.key) := keys_ext HKS.out HS.out.1 fun z => by
            by_cases hz : kS.okk z
            · rw [HS.out.2.2 z hz]
              exact and_iff_left (HD.out z hz)
            · constructor
              · intro h; exact absurd (HS.out.2.1 z h) hz
              · intro h
                obtain ⟨x, hx, rfl⟩ := List.mem_map.1 ((mapV_some HKS.out z).1 h)
                rcases mem_setF.1 hx with rfl | ⟨hx, _⟩
                · exact absurd HVO.out.1 hz
                · exact absurd (kS_ok (HFL.out x hx).1) hz
          rw [hE] at ho
          have hlen : xs.length = (setF r.fields f).length := by rw [← length_sortS xs, hE, List.length_map]
          have HMP := Aside.mk (HR2.out.map.kept hg (fun e => by have := HNE.out _ e.symm; have := HMW.out; omega))
          have HY3 := Aside.mk (HY2.out.grown hg (fun j hj => by have := HNE.out j hj; have := HMW.out; omega))
          rw [hlen] at ho ⊢
          have HO3 := Aside.mk ho
          have HLK := Aside.mk (fun (x : Fld) (hx : x ∈ setF r.fields f) => And.intro ((mapV_iff HKS.out x.key x.val).2 hx) (show kS.okk x.key from by
            rcases mem_setF.1 hx with rfl | ⟨hx, _⟩
            · exact HVO.out.1
            · exact kS_ok (HFL.out x hx).1))
          have HSE := Aside.mk (show (6 < (setF r.fields f).length → setErr r f = 2 ∧ setR r f = noRec) ∧ (¬ 6 < (setF r.fields f).length → setErr r f = 0 ∧ setR r f = { r with fields := setF r.fields f }) from ⟨setErr_c HH.out.1 HH.out.2.1 HH.out.2.2, setErr_d HH.out.1 HH.out.2.1 HH.out.2.2⟩)
          clear hE hg ho hlen HO HR2 HS HY2 HGL HXL HX62 HNE HD q2
          generalize setF r.fields f = L at *
          have z3 := HY3.out.b2.four
          by_cases h6 : 6 < L.length
          · have HSX := Aside.mk (HSE.out.1 h6)
            have g6 : decide ((6 : Int) < (L.length : Int)) = true := decide_eq_true (by omega)
            clear h6
            go_wp2_with fail
            refine bodyPost_ret (v := .tuple #[.agg #[.string ⟨#[]⟩, .int .i64 0, .slice none 0 0, .slice none 0 0], .int .i64 2]) ?_ rfl ?_
            · simp [results, Tryd.results54, go_sem, z3]
            · rw [HSX.out.1, HSX.out.2]
              exact ⟨_, _, rfl, Sl.nil _ _ _, Sl.nil _ _ _, below_four HY3.out.bel (by omega) _ _ _ _⟩
          · have HSX := Aside.mk (HSE.out.2 h6)
            have g6 : decide ((6 : Int) < (L.length : Int)) = false := decide_eq_false (by omega)
            have hL6 : L.length ≤ 6 := by omega
            have q3 := HY3.out.b0.four
            clear h6 HSE
            have hal : Below w3.heap.size w3 (w3.alloc (.cells #[.string r.id, .int .i64 r.cats, .slice none 0 0, .slice A2 r.refs.length c2] 35)) := (Below.refl _ _).alloc (Nat.le_refl _) _
            have HQ4 := Aside.mk (Bk.made w3 [.string r.id, .int .i64 r.cats, .slice none 0 0, .slice A2 r.refs.length c2] 35)
            have HM4 := Aside.mk (HMP.out.below hal)
            have HO4 := Aside.mk (HO3.out.below hal)
            have HY4 := Aside.mk (HY3.out.below hal)
            have HKB : Aside (∀ k, (Value.slice Ao L.length co).ownBlock = some k → k < w3.heap.size) := ⟨fun k hk => (HO3.out.lt k hk).2⟩
            have HRM : Aside (M < w3.heap.size ∧ w.heap.size + 2 < w3.heap.size) := ⟨HMP.out.lt, HY3.out.b2.lt⟩
            have HRS : Aside ((w3.alloc (.cells #[.string r.id, .int .i64 r.cats, .slice none 0 0, .slice A2 r.refs.length c2] 35)).heap.size = w3.heap.size + 1) := ⟨by simp⟩
            clear hal HMP HO3 HY3
            go_wp2_with fail
            generalize w3.alloc _ = w4 at HQ4 HM4 HO4 HY4 HRS ⊢
            generalize w3.heap.size = R at HQ4 HKB HRM HRS ⊢
            clear q3 z3
            go_loopw [63] (fun i wr => ∃ (j : Nat) (vF : Value), j ≤ L.length ∧ i = .int .i64 j ∧ Aside (Bk wr R [.string r.id, .int .i64 r.cats, vF, .slice A2 r.refs.length c2]) ∧ Aside (fldR.Own 46 wr (R + 1) (fun _ => False) vF (L.take j)) ∧ Aside (MapIs kS eS wr M (r.fields.length + 1) (mapV r.fields f)) ∧ Aside (str.Own 9 wr (g + 1) (fun _ => False) (.slice Ao L.length co) (L.map (·.key))) ∧ Aside (SetY r f A1 A2 c1 c2 w wr) ∧ Aside (R + 1 ≤ wr.heap.size)) (fun i _ => L.length - (intOf i).toNat)
            case atStart => exact ⟨0, _, Nat.zero_le _, rfl, HQ4, ⟨Own.nil _ _ _ _ _⟩, HM4, HO4, HY4, ⟨Nat.le_of_eq HRS.out.symm⟩⟩
            case round =>
              clear HQ4 HM4 HO4 HY4
              obtain ⟨j, vF, hj, rfl, HQ, HF4, HM, HK, HY, HS4⟩ := hrel
              obtain ⟨AF, cF, rfl, hcF, _⟩ := HF4.out.sl
              have htl : (L.take j).length = j := by rw [List.length_take]; omega
              rw [htl] at HF4 HQ hcF
              have HTL := Aside.mk htl
              clear htl
              have q4 := HQ.out.four
              by_cases hlt : j < L.length
              · have i0 : (0 : Int) ≤ (j : Int) := by omega
                have i1 : (j : Int) < (L.length : Int) := by omega
                obtain ⟨ad, rfl, _, x0⟩ := str_at HK.out.row.2.2 (show j < (L.map (·.key)).length by simpa using hlt)
                rw [List.getElem_map] at x0
                have HL := Aside.mk (HLK.out L[j] (List.getElem_mem hlt))
                have HG2 := Aside.mk (show (mapV r.fields f L[j].key).getD eS.zero = L[j].val by rw [HL.out.1]; rfl)
                have HST := Aside.mk (show L.take (j + 1) = L.take j ++ [L[j]] from List.take_succ_eq_append_getElem hlt)
                have HLN : Aside (((L.take j).length + 1) * 32 ≤ 140737488355328) := ⟨by rw [HTL.out]; omega⟩
                have hal : Below wr.heap.size wr (wr.alloc (.cells #[.string L[j].key, .string L[j].val] 46)) := (Below.refl _ _).alloc (Nat.le_refl _) _
                have HALF := Aside.mk hal
                have HONE : Aside ((L.take j ++ [L[j]]).length = j + 1) := ⟨by rw [List.length_append, HTL.out]; rfl⟩
                clear hal
                go_wp2_with (first
                  | (at_lookup; refine map_look (K := kS) (E := eS) rfl _ _ rfl Tryd.underlying121 rfl HM.out L[j].key rfl HL.out.2 ?_; rw [HG2.out])
                  | (at_builtin
                     refine append_one (w0 := wr) fldR (R + 1) rfl (.tmp 68) (.tmp 74) 32 46 _ 32 rfl Tryd.underlying32 infoF rfl (by decide) (by decide) (.slice AF j cF) (L.take j) L[j] [.string L[j].key, .string L[j].val] (fun _ => False) rfl rfl (fldK.2 rfl) HF4.out (Below.refl _ _) HS4.out HLN.out ?_
                     intro v1 w5 HO1 HB1 hg5 hat
                     obtain ⟨A5, c5, rfl, _⟩ := HO1.sl
                     rw [HONE.out] at HO1 ⊢
                     have HX5 := Aside.mk (And.intro HO1 (And.intro hg5 hat))
                     have HOB : Aside (∀ k, (Value.slice AF j cF).ownBlock = some k → R + 1 ≤ k) := ⟨fun k hk => (HF4.out.lt k hk).1⟩
                     have q5 : R < w5.heap.size ∧ _ := Bk.four (bk_grown HQ.out hg5 fun e => by have := HOB.out R e.symm; omega)
                     clear HO1 HB1 hg5 hat))
                have HW := Aside.mk HX5.out.2.1
                have HS5 := Aside.mk HX5.out.2.1.size
                have hset := fun v => grown_setCells w5 R 2 [v]
                refine ⟨⟨j + 1, _, by omega, by go_num, ⟨(bk_grown HQ.out HW.out fun e => by have := HOB.out R e.symm; omega).set 2 _⟩, ⟨?_⟩, ⟨?_⟩, ⟨?_⟩, ⟨?_⟩, ⟨?_⟩⟩, by simp [intOf]; omega⟩
                · rw [HST.out]
                  refine HX5.out.1.move (fun k hk => Below.heap_setCell _ _ _ k ?_) fun k hk => hk.elim
                  have := (HX5.out.1.lt k hk).1
                  show k ≠ R
                  omega
                · exact (HM.out.kept HW.out fun e => by have := HOB.out M e.symm; have := HRM.out; omega).kept (hset _) fun e => by injection e with e; have := HRM.out; omega
                · refine (HK.out.grown HW.out (fun k hk e => ?_) fun k hk => hk.elim).grown (hset _) (fun k hk e => ?_) fun k hk => hk.elim
                  · have := HOB.out k e.symm
                    have := HKB.out k hk
                    omega
                  · injection e with e
                    have := HKB.out k hk
                    omega
                · refine (HY.out.grown HW.out fun k hk => ?_).grown (hset _) fun k hk => ?_
                  · have := HOB.out k hk
                    have := HRM.out
                    omega
                  · injection hk with hk
                    have := HRM.out
                    omega
                · have := HS4.out
                  have := HS5.out
                  have h9 := (hset (Value.slice A5 (j + 1) c5)).size
                  exact Nat.le_trans (Nat.le_trans HS4.out HS5.out) h9
              · obtain rfl : j = L.length := by omega
                rw [List.take_length] at HF4
                have q0 := HY.out.b2.four
                have hRS : R ≠ w.heap.size + 2 := by have := HRM.out; omega
                have hRS2 : w.heap.size + 2 ≠ R := fun e => hRS e.symm
                have HGr := Aside.mk (HG.out.below HY.out.bel)
                have hA2 : r.refs.length ≤ c2 := HL6.out.2
                go_wp2_with fail
                refine bodyPost_ret (v := .tuple #[.agg #[.string r.id, .int .i64 r.cats, .slice AF L.length cF, .slice A2 r.refs.length c2], .int .i64 0]) ?_ rfl ?_
                · simp [results, Tryd.results54, go_sem, q0, hRS, hRS2]
                · rw [HSX.out.1, HSX.out.2]
                  refine ⟨_, _, rfl, ?_, ⟨_, _, rfl, hA2, ?_⟩, below_four HY.out.bel (by omega) _ _ _ _⟩
                  · exact Sl.mono (ok := fun k => R + 1 ≤ k) ((HF4.out.sl.mono fun k hk _ => hk.elim False.elim fun h => (HF4.out.lt k h).1).move fun k hk _ => setS (m := w.heap.size + 2) (by have := HRM.out; omega)) fun k hk _ => trivial
                  · exact (HGr.out.move fun k hk hl => setS (m := w.heap.size + 2) (by omega)).mono fun k hk _ => trivial
        · refine ⟨⟨_, xs ++ [z], HR5, HO5, ⟨⟨?_, ?_, ?_⟩⟩, HY5⟩, by rw [HL5.out]; exact HL3.out⟩
          · refine List.nodup_append.2 ⟨HS.out.1, by simp, fun a ha b hb => ?_⟩
            simp at hb
            subst hb
            intro e
            subst e
            exact ((HS.out.2.2 _ HZ.out.1).1 ha).2 HZ.out.2.1
          · intro y hy
            rcases List.mem_append.1 hy with hy | hy
            · exact HS.out.2.1 y hy
            · simp at hy; subst hy; exact HZ.out.1
          · intro y hy
            rw [List.mem_append, HS.out.2.2 y hy]
            constructor
            · rintro (⟨h1, h2⟩ | h1)
              · exact ⟨h1, fun h => h2 h.1⟩
              · simp at h1; subst h1; exact ⟨by rw [HZ.out.2.2]; rfl, fun h => h.2 rfl⟩
            · rintro ⟨h1, h2⟩
              by_cases e : y = z
              · subst e; exact .inr (by simp)
              · exact .inl ⟨h1, fun h => h2 ⟨h, e⟩⟩
end Go.Proofs.WK
