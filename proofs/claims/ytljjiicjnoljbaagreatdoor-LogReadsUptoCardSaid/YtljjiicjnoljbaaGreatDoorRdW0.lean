/-
  wyref.Read (P20).
  wyref.Read (P20): the walk.
-/
import Derived.Deep.RegionLaw
import Derived.Test.YtljjiicjnoljbaaGreatDoorRecRd
import Derived.Test.YtljjiicjnoljbaaGreatDoorRef0
namespace Go.Proofs.WK
open Go.RowKit Rp
theorem cut_parts (c : UInt8) (s : ByteArray) : parts c s = cut1 c s :: (if cut3 c s then parts c (cut2 c s) else []) := by
  rcases Lib.indexB_cases s (one c) with h | ⟨i, h, _⟩
  · rw [parts_miss h, cut1, cut2, cut3, if_pos h, if_pos h, decide_eq_true h]
    rfl
  · have hn : ¬ Lib.indexB s (one c) = -1 := by omega
    rw [parts_hit h, cut1, cut2, cut3, if_neg hn, if_neg hn, decide_eq_false hn, h]
    rfl
theorem cut_cons {c : UInt8} {s x y : ByteArray} {l : List ByteArray} (h : parts c s = x :: y :: l) : cut1 c s = x ∧ parts c (cut2 c s) = y :: l := by
  rw [cut_parts] at h
  cases hc : cut3 c s with
  | true =>
    rw [hc] at h
    simp only [if_true] at h
    injection h with h1 h2
    exact ⟨h1, h2⟩
  | false =>
    rw [hc] at h
    simp at h
theorem parts_one {c : UInt8} {s x : ByteArray} (h : parts c s = [x]) : s = x := by
  rcases Lib.indexB_cases s (one c) with h1 | ⟨i, h1, _⟩
  · rw [parts_miss h1] at h
    injection h
  · rw [parts_hit h1] at h
    injection h with _ h2
    have := parts_len c (s.extract (i + 1) s.size)
    rw [h2] at this
    simp at this
theorem cut_four {s a b c d : ByteArray} (h : parts 59 s = [a, b, c, d]) : cut1 59 s = a ∧ cut1 59 (cut2 59 s) = b ∧ cut1 59 (cut2 59 (cut2 59 s)) = c ∧ cut2 59 (cut2 59 (cut2 59 s)) = d := by
  obtain ⟨h1, h2⟩ := cut_cons h
  obtain ⟨h3, h4⟩ := cut_cons h2
  obtain ⟨h5, h6⟩ := cut_cons h4
  exact ⟨h1, h3, h5, parts_one h6⟩
theorem cut1_le (c : UInt8) (s : ByteArray) : (cut1 c s).size ≤ s.size := by
  unfold cut1
  split
  · exact Nat.le_refl _
  · exact extract_le _ _ _
theorem cut2_le (c : UInt8) (s : ByteArray) : (cut2 c s).size ≤ s.size := by
  unfold cut2
  split
  · exact Nat.zero_le _
  · exact extract_le _ _ _
/-- What is still to be read of a list. -/
def todo (b : Bool) (s : ByteArray) : List ByteArray := if b then parts 44 s else []
theorem todo_items (s : ByteArray) : items s = todo (!decide (s.size = 0)) s := by
  unfold items todo
  by_cases h : s.size = 0
  · rw [if_pos h, decide_eq_true h]; rfl
  · rw [if_neg h, decide_eq_false h]; rfl
theorem todo_step (s : ByteArray) : todo true s = cut1 44 s :: todo (cut3 44 s) (cut2 44 s) := cut_parts 44 s
def strV : Value → ByteArray
  | .string s => s
  | _ => ⟨#[]⟩
def boolV : Value → Bool
  | .bool b => b
  | _ => false
/-- While the fields are read. -/
structure RfA (w W : World) (G R base : Nat) (a : ByteArray) (n : Int) (v : Value) (fs : List Fld) : Prop where
  bel : Below w.heap.size w W
  bg : Bk W G [.string ⟨#[]⟩, .int .i64 0, .slice none 0 0, .slice none 0 0]
  bk : Bk W R [.string a, .int .i64 n, v, .slice none 0 0]
  own : fldR.Own 38 W base (fun _ => False) v fs
  le : base ≤ W.heap.size
  lt : R < base
  gl : G < R
  wg : w.heap.size ≤ G
theorem RfA.below {w W W2 : World} {G R base : Nat} {a : ByteArray} {n : Int} {v : Value} {fs : List Fld} (h : RfA w W G R base a n v fs) (hb : Below W.heap.size W W2) : RfA w W2 G R base a n v fs :=
  ⟨below_step h.bel hb, h.bg.below hb, h.bk.below hb, h.own.below hb, Nat.le_trans h.le hb.size, h.lt, h.gl, h.wg⟩
theorem bk_grown {W W2 : World} {R : Nat} {cs : List Value} {row : Option Nat} (h : Bk W R cs) (hg : W.grownBy W2 row) (hn : some R ≠ row) : Bk W2 R cs := by
  have hl := h.lt
  obtain ⟨t, e⟩ := h
  exact ⟨t, (hg.block R hl hn).trans e⟩
theorem bk_set {W : World} {R k o : Nat} {cs : List Value} {u : Value} (h : Bk W R cs) (hn : R ≠ k) : Bk (W.setCell ⟨k, o, none⟩ u) R cs := by
  obtain ⟨t, e⟩ := h
  exact ⟨t, (Below.heap_setCell _ _ _ R hn).trans e⟩
theorem RfA.bk2 {w W W2 : World} {G R base : Nat} {a : ByteArray} {n : Int} {v : Value} {fs : List Fld} (h : RfA w W G R base a n v fs) (hg : W.grownBy W2 v.ownBlock) : Bk W2 R [.string a, .int .i64 n, v, .slice none 0 0] :=
  bk_grown h.bk hg fun e => by have := (h.own.lt R e.symm).1; have := h.lt; omega
theorem RfA.put {w W W2 : World} {G R base : Nat} {a : ByteArray} {n : Int} {v v1 : Value} {fs fs1 : List Fld} (h : RfA w W G R base a n v fs) (hg : W.grownBy W2 v.ownBlock) (ho : fldR.Own 38 W2 base (fun _ => False) v1 fs1) :
    RfA w (W2.setCell ⟨R, 2, none⟩ v1) G R base a n v1 fs1 := by
  have h1 := h.lt
  have h2 := h.gl
  have h3 := h.wg
  have hb : Below w.heap.size w W2 := h.bel.grown hg h.bel.size fun j hj => by have := (h.own.lt j hj).1; omega
  refine ⟨below_set hb (show w.heap.size ≤ R by omega) _, bk_set (bk_grown h.bg hg fun e => by have := (h.own.lt G e.symm).1; omega) (by omega), (h.bk2 hg).set 2 _, ho.move (fun k hk => Below.heap_setCell _ _ _ k fun e => ?_) (fun k hk => hk.elim), ?_, h.lt, h.gl, h.wg⟩
  · have e2 : k = R := e
    have := (ho.lt k hk).1
    omega
  · have := h.le
    have := hg.size
    rw [show (W2.setCell ⟨R, 2, none⟩ v1).heap.size = W2.heap.size by simp [World.setCell]]
    omega
/-- While the refs are read. -/
structure RfB (w W : World) (G R base : Nat) (a : ByteArray) (n : Int) (AF : Option Addr) (cF : Nat) (fs : List Fld) (v : Value) (rs : List ByteArray) : Prop where
  bel : Below w.heap.size w W
  bg : Bk W G [.string ⟨#[]⟩, .int .i64 0, .slice none 0 0, .slice none 0 0]
  bk : Bk W R [.string a, .int .i64 n, .slice AF fs.length cF, v]
  rf : fldR.Row W (fun k => R < k ∧ k < base) AF fs
  own : str.Own 9 W base (fun _ => False) v rs
  le : base ≤ W.heap.size
  lt : R < base
  gl : G < R
  wg : w.heap.size ≤ G
theorem RfB.below {w W W2 : World} {G R base : Nat} {a : ByteArray} {n : Int} {AF : Option Addr} {cF : Nat} {fs : List Fld} {v : Value} {rs : List ByteArray} (h : RfB w W G R base a n AF cF fs v rs) (hb : Below W.heap.size W W2) : RfB w W2 G R base a n AF cF fs v rs :=
  ⟨below_step h.bel hb, h.bg.below hb, h.bk.below hb, h.rf.below hb, h.own.below hb, Nat.le_trans h.le hb.size, h.lt, h.gl, h.wg⟩
theorem RfB.bk2 {w W W2 : World} {G R base : Nat} {a : ByteArray} {n : Int} {AF : Option Addr} {cF : Nat} {fs : List Fld} {v : Value} {rs : List ByteArray} (h : RfB w W G R base a n AF cF fs v rs) (hg : W.grownBy W2 v.ownBlock) : Bk W2 R [.string a, .int .i64 n, .slice AF fs.length cF, v] :=
  bk_grown h.bk hg fun e => by have := (h.own.lt R e.symm).1; have := h.lt; omega
theorem RfB.put {w W W2 : World} {G R base : Nat} {a : ByteArray} {n : Int} {AF : Option Addr} {cF : Nat} {fs : List Fld} {v v1 : Value} {rs rs1 : List ByteArray} (h : RfB w W G R base a n AF cF fs v rs) (hg : W.grownBy W2 v.ownBlock) (ho : str.Own 9 W2 base (fun _ => False) v1 rs1) :
    RfB w (W2.setCell ⟨R, 3, none⟩ v1) G R base a n AF cF fs v1 rs1 := by
  have h1 := h.lt
  have h2 := h.gl
  have h3 := h.wg
  have hb : Below w.heap.size w W2 := h.bel.grown hg h.bel.size fun j hj => by have := (h.own.lt j hj).1; omega
  refine ⟨below_set hb (show w.heap.size ≤ R by omega) _, bk_set (bk_grown h.bg hg fun e => by have := (h.own.lt G e.symm).1; omega) (by omega), (h.bk2 hg).set 3 _, h.rf.move fun k hk hl => (Below.heap_setCell _ _ _ k (fun e => ?_)).trans (hg.block k hl fun e => by have := (h.own.lt k e.symm).1; omega), ho.move (fun k hk => Below.heap_setCell _ _ _ k fun e => ?_) (fun k hk => hk.elim), ?_, h.lt, h.gl, h.wg⟩
  · have e2 : k = R := e
    omega
  · have e2 : k = R := e
    have := (ho.lt k hk).1
    omega
  · have := h.le
    have := hg.size
    rw [show (W2.setCell ⟨R, 3, none⟩ v1).heap.size = W2.heap.size by simp [World.setCell]]
    omega
/-- From the one to the other. -/
theorem RfA.next {w W : World} {G R base : Nat} {a : ByteArray} {n : Int} {AF : Option Addr} {cF : Nat} {fs : List Fld} (h : RfA w W G R base a n (.slice AF fs.length cF) fs) : RfB w W G R W.heap.size a n AF cF fs (.slice none 0 0) [] :=
  ⟨h.bel, h.bg, h.bk, h.own.row.2.2.mono fun k hk hl => ⟨by have := (h.own.lt k (hk.elim False.elim id)).1; have := h.lt; omega, hl⟩, Own.nil _ _ _ _ _, Nat.le_refl _, Nat.lt_of_lt_of_le h.lt h.le, h.gl, h.wg⟩
end Go.Proofs.WK
namespace Go.Proofs.WK
open Go.RowKit Rp
theorem empty_iff (s : ByteArray) : s.toList.isEmpty = decide (s.size = 0) := by
  by_cases h : s.size = 0
  · rw [decide_eq_true h]
    cases s with
    | mk d =>
      have : d.size = 0 := h
      rw [Array.eq_empty_of_size_eq_zero this, toList_data]
      rfl
  · rw [decide_eq_false h]
    exact size_ne h
theorem flds_sizes (N : Nat) : ∀ (l : List ByteArray) (fs : List Fld), fldsV l = some fs → (∀ x ∈ l, x.size ≤ N) → ∀ f ∈ fs, f.val.size ≤ N
  | [], fs, h, _, f, hf => by
    injection h with h
    subst h
    cases hf
  | x :: l, fs, h, hl, f, hf => by
    unfold fldsV at h
    cases hx : fldV x with
    | none => simp [hx] at h
    | some g =>
      cases hg : fldsV l with
      | none => simp [hx, hg] at h
      | some gs =>
        simp only [hx, hg, Option.some.injEq] at h
        subst h
        rcases List.mem_cons.1 hf with rfl | hf
        · unfold fldV at hx
          split at hx
          · cases hx
          · injection hx with hx
            subst hx
            exact Nat.le_trans (extract_le _ _ _) (hl x (List.mem_cons_self ..))
        · exact flds_sizes N l gs hg (fun y hy => hl y (List.mem_cons_of_mem _ hy)) f hf
set_option maxRecDepth 100000 in
set_option maxHeartbeats 4000000 in
theorem refRead (s : ByteArray) (w : World) (hs : s.size < 4294967281) (hm : MaxCell w) :
    Calls Tryz.prog 117 #[.string s] w fun e w' => ∃ v1 v2, e = .returned (.tuple #[.agg #[.string (readR s).id, .int .i64 (readR s).cats, v1, v2], .int .i64 (readE s)]) ∧ fldR.Sl w' (fun k => w.heap.size ≤ k) v1 (readR s).fields ∧ str.Sl w' (fun k => w.heap.size ≤ k) v2 (readR s).refs ∧ Below w.heap.size w w' := by
  have hb1 : Below w.heap.size w (w.alloc (.cells #[.string ⟨#[]⟩, .int .i64 0, .slice none 0 0, .slice none 0 0] 36)) := (Below.refl _ _).alloc (Nat.le_refl _) _
  have HQ := Aside.mk (Bk.made w [.string ⟨#[]⟩, .int .i64 0, .slice none 0 0, .slice none 0 0] 36)
  have HM := Aside.mk hm
  have HB := Aside.mk hb1
  have HZ := Aside.mk hs
  have q0 := HQ.out.four
  have hpl := parts_len 59 s
  clear hm hb1 hs
  by_cases h4 : (parts 59 s).length = 4
  · obtain ⟨a, b, c, d, hps⟩ := len_four h4
    have HW := Aside.mk (raw_four hps)
    obtain ⟨e1, e2, e3, e4⟩ := cut_four hps
    have HZ2 : Aside (a.size < 4294967281 ∧ b.size < 4294967281 ∧ c.size < 4294967281 ∧ d.size < 4294967281) := ⟨by
      have h := parts_size 59 _ s rfl
      rw [hps] at h
      have hz := HZ.out
      exact ⟨Nat.lt_of_le_of_lt (h a (by simp)) hz, Nat.lt_of_le_of_lt (h b (by simp)) hz, Nat.lt_of_le_of_lt (h c (by simp)) hz, Nat.lt_of_le_of_lt (h d (by simp)) hz⟩⟩
    have g1 : ((Lib.countB s (one 59) : Nat) : Int) = 3 := by omega
    have HC := Aside.mk (cntC s 59)
    have HC1 := Aside.mk (fun (W : World) (h : MaxCell W) => cutC s 59 W HZ.out h)
    have HC2 := Aside.mk (fun (W : World) (h : MaxCell W) => cutC (cut2 59 s) 59 W (Nat.lt_of_le_of_lt (cut2_le _ _) HZ.out) h)
    have HC3 := Aside.mk (fun (W : World) (h : MaxCell W) => cutC (cut2 59 (cut2 59 s)) 59 W (Nat.lt_of_le_of_lt (Nat.le_trans (cut2_le _ _) (cut2_le _ _)) HZ.out) h)
    rw [g1] at HC
    rw [e1] at HC1
    rw [e2] at HC2
    rw [e3, e4] at HC3
    clear h4 hpl hps e1 e2 e3 e4 g1
    go_enter Tryz.func117, Tryz.ntmps117
    go_wp2_with fail
    refine (HC.out _).mono ?_
    rintro e w' ⟨rfl, rfl⟩
    go_wp2_with fail
    refine (HC1.out _ (HM.out.below HB.out)).mono ?_
    rintro e w1 ⟨rfl, hd1⟩
    have HB1 := Aside.mk (below_step HB.out hd1.below)
    have HQ1 := Aside.mk (HQ.out.below hd1.below)
    clear hd1 q0 HQ HB
    go_wp2_with fail
    refine (HC2.out _ (HM.out.below HB1.out)).mono ?_
    rintro e w2 ⟨rfl, hd2⟩
    have HB2 := Aside.mk (below_step HB1.out hd2.below)
    have HQ2 := Aside.mk (HQ1.out.below hd2.below)
    clear hd2 HQ1 HB1
    go_wp2_with fail
    refine (HC3.out _ (HM.out.below HB2.out)).mono ?_
    rintro e w3 ⟨rfl, hd3⟩
    have HB3 := Aside.mk (below_step HB2.out hd3.below)
    have HQ3 := Aside.mk (HQ2.out.below hd3.below)
    clear hd3 HQ2 HB2 HC HC1 HC2 HC3
    go_upto_region 7 with fail
    obtain ⟨R, hR⟩ : ∃ R, R = w3.heap.size := ⟨_, rfl⟩
    generalize hw4 : w3.alloc (.cells #[.string a, .int .i64 0, .slice none 0 0, .slice none 0 0] 36) = w4
    have hA : RfA w w4 w.heap.size R w4.heap.size a 0 (.slice none 0 0) [] := by
      have hl := HQ3.out.lt
      subst hw4
      subst hR
      exact ⟨HB3.out.alloc HB3.out.size _, HQ3.out.alloc _, Bk.made w3 [.string a, .int .i64 0, .slice none 0 0, .slice none 0 0] 36, Own.nil _ _ _ _ _, Nat.le_refl _, (Bk.made w3 [.string a, .int .i64 0, .slice none 0 0, .slice none 0 0] 36).lt, hl, Nat.le_refl _⟩
    have HA := Aside.mk hA
    rw [← hR]
    clear hA hw4 hR HB3 HQ3
    go_wp2_with fail
    refine (refNum b _ HZ2.out.2.1).mono ?_
    rintro e w5 ⟨v, rfl, hv, hb5⟩
    have HA5 := Aside.mk (HA.out.below hb5)
    have HV := Aside.mk hv
    have q5 := HA5.out.bk.four
    have p5 := (bk_set (k := R) (o := 1) (u := .int .i64 v) HA5.out.bg (by have := HA5.out.gl; omega)).four
    clear HA hb5 hv
    cases hn : numV b with
    | none =>
      have H := Aside.mk (read_none (s := s) (by rw [HW.out, hn]))
      clear hn HV
      rw [show (none : Option Int).isSome = false from rfl]
      go_wp2_with fail
      rw [H.out.1, H.out.2]
      refine bodyPost_ret (v := .tuple #[.agg #[.string ⟨#[]⟩, .int .i64 0, .slice none 0 0, .slice none 0 0], .int .i64 10]) ?_ rfl ⟨.slice none 0 0, .slice none 0 0, rfl, Sl.nil _ _ _, Sl.nil _ _ _, ?_⟩
      · simp [results, Tryz.results117, go_sem, p5]
      · exact below_four (below_set HA5.out.bel (Nat.le_trans HA5.out.wg (Nat.le_of_lt HA5.out.gl)) _) (Nat.le_refl _) _ _ _ _
    | some n =>
      obtain rfl := HV.out n hn
      have HW2 := Aside.mk (show rawV s = match fldsV (items c) with | some fs => some ⟨a, v, fs, items d⟩ | none => none by rw [HW.out, hn]; cases fldsV (items c) <;> rfl)
      clear hn HV HW
      rw [show (some v : Option Int).isSome = true from rfl]
      go_upto_region 11 with fail
      generalize hw6 : w5.setCell ⟨R, 1, none⟩ (.int .i64 v) = w6
      have hA6 : ∃ base, RfA w w6 w.heap.size R base a v (.slice none 0 0) [] := ⟨w4.heap.size, by
        subst hw6
        have h := HA5.out
        have h1 := h.lt
        have h2 := h.gl
        exact ⟨below_set h.bel (show w.heap.size ≤ R by omega) _, bk_set h.bg (by omega), h.bk.set 1 _, Own.nil _ _ _ _ _, by simpa [World.setCell] using h.le, h.lt, h.gl, h.wg⟩⟩
      obtain ⟨base, hA6⟩ := hA6
      have HA6 := Aside.mk hA6
      clear hw6 hA6 HA5 q5 p5
      obtain ⟨bE, hbE⟩ : ∃ b, b = decide (c.size = 0) := ⟨_, rfl⟩
      have hem : c.toList.isEmpty = bE := by rw [hbE]; exact empty_iff c
      have HT := Aside.mk (show items c = [] ++ todo (!bE) c by rw [hbE]; exact todo_items c)
      clear hbE
      go_wp2_with fail
      go_loopw [8, 13] (fun x m wr => ∃ (F : ByteArray) (g : Bool) (dn : List ByteArray) (fs : List Fld) (vF : Value), x = .string F ∧ m = .bool g ∧ Aside (F.size ≤ c.size ∧ items c = dn ++ todo g F ∧ fldsV dn = some fs) ∧ Aside (RfA w wr w.heap.size R base a v vF fs)) (fun x m _ => (todo (boolV m) (strV x)).length)
      case atStart => exact ⟨c, _, [], [], _, rfl, rfl, ⟨Nat.le_refl _, HT.out, rfl⟩, HA6⟩
      case round =>
        clear HA6 hem HT
        obtain ⟨F, g, dn, fs, vF, rfl, rfl, HK, HL⟩ := hrel
        obtain ⟨AF, cF, rfl, hcF⟩ := HL.out.own.sl.frm
        have q0 := HL.out.bk.four
        have p0 := HL.out.bg.four
        cases g with
        | true =>
          have HFZ := Aside.mk (Nat.lt_of_le_of_lt HK.out.1 HZ2.out.2.2.1)
          have HMr := Aside.mk (HM.out.below HL.out.bel)
          go_wp2_with fail
          refine (cutC F 44 _ HFZ.out HMr.out).mono ?_
          rintro e w7 ⟨rfl, hdr⟩
          have HL7 := Aside.mk (HL.out.below hdr.below)
          have q7 := HL7.out.bk.four
          have p7 := HL7.out.bg.four
          clear q0 p0 hdr HL HMr
          have HTS := Aside.mk (todo_step F)
          have hfz := Nat.lt_of_le_of_lt (cut1_le 44 F) HFZ.out
          have HF2 := Aside.mk (Nat.le_trans (cut2_le 44 F) HK.out.1)
          generalize cut1 44 F = f at *
          generalize cut2 44 F = F2 at *
          generalize cut3 44 F = m2 at *
          rcases Lib.indexB_cases f (one 61) with hx | ⟨i, hx, hi⟩
          · have HX := Aside.mk (ixbC f 61 w7)
            rw [hx] at HX
            have H := Aside.mk (read_none (s := s) (by
              rw [HW2.out, fldsV_bad (s := f) (by rw [HK.out.2.1, HTS.out]; simp) (fldV_miss hx)]))
            clear hx
            go_wp2_with fail
            refine HX.out.mono ?_
            rintro e w8 ⟨rfl, rfl⟩
            go_wp2_with fail
            rw [H.out.1, H.out.2]
            refine bodyPost_ret (v := .tuple #[.agg #[.string ⟨#[]⟩, .int .i64 0, .slice none 0 0, .slice none 0 0], .int .i64 10]) ?_ rfl ⟨.slice none 0 0, .slice none 0 0, rfl, Sl.nil _ _ _, Sl.nil _ _ _, ?_⟩
            · simp [results, Tryz.results117, go_sem, p7]
            · exact below_four (HL7.out.bel) (Nat.le_refl _) _ _ _ _
          · have HX := Aside.mk (ixbC f 61 w7)
            rw [hx] at HX
            have HF := Aside.mk (fldV_hit hx)
            have hi' : i + 1 ≤ f.size := hi
            have i0 : (0 : Int) ≤ (i : Int) := by omega
            have i1 : (i : Int) ≤ (f.size : Int) := by omega
            have i2 : (i : Int) + 1 ≤ (f.size : Int) := by omega
            have i3 : IntKind.i64.wrap ((i : Int) + 1) = (i : Int) + 1 := by rw [IntKind.wrap_i64]; omega
            have i4 : (0 : Int) ≤ (i : Int) + 1 := by omega
            have i5 : ((i : Int) + 1).toNat = i + 1 := by omega
            have hneg : decide ((i : Int) < 0) = false := decide_eq_false (by omega)
            clear hx hi
            go_wp2_with fail
            refine HX.out.mono ?_
            rintro e w8 ⟨rfl, rfl⟩
            have hal : Below w7.heap.size w7 (w7.alloc (.cells #[.string (f.extract 0 i), .string (f.extract (i + 1) f.size)] 38)) := (Below.refl _ _).alloc (Nat.le_refl _) _
            have c2 : w7.cell? ⟨R, 2, none⟩ = some (.slice AF fs.length cF) := q7.2.2.2.1
            have c3 := cell_below hal c2
            have hdl : dn.length = fs.length := (fldsV_len HK.out.2.2).symm
            have HLN : Aside ((fs.length + 1) * 32 ≤ 140737488355328) := ⟨by
              have h1 := items_len c
              have h2 := congrArg List.length HK.out.2.1
              rw [List.length_append] at h2
              have := HZ2.out.2.2.1
              omega⟩
            have hone : ∀ x y : ByteArray, (fs ++ [(⟨x, y⟩ : Fld)]).length = fs.length + 1 := fun x y => by simp
            have HAL := Aside.mk hal
            clear hal hdl q7 p7
            have HN : Aside (items c = (dn ++ [f]) ++ todo m2 F2 ∧ fldsV (dn ++ [f]) = some (fs ++ [⟨f.extract 0 i, f.extract (i + 1) f.size⟩]) ∧ (todo m2 F2).length < (todo true F).length) := ⟨by rw [HK.out.2.1, HTS.out]; simp, by rw [fldsV_snoc HK.out.2.2, HF.out]; rfl, by rw [HTS.out]; exact Nat.lt_succ_self _⟩
            go_upto_region 18 with fail
            go_region_law
              (refine step_one (w0 := _) fldR base rfl (.tmp 67) (.tmp 76) 33 38 _ 32 rfl Tryz.underlying33 infoFd rfl (by decide) (by decide) (.slice AF fs.length cF) fs ⟨f.extract 0 i, f.extract (i + 1) f.size⟩ [.string (f.extract 0 i), .string (f.extract (i + 1) f.size)] (fun _ => False) w7.heap.size 1 rfl rfl (blk_new w7 _ _) (fldK.2 rfl) ((HL7.out.own.below HAL.out).below (below_drewN (Below.refl _ _) 1)) (Below.refl _ _) (Nat.le_trans HL7.out.le HAL.out.size) HLN.out ?_
               intro v1 w8 HO1 HB1 hg hat
               obtain ⟨AX, cX, rfl, hcX⟩ := HO1.sl.frm
               have hg2 := hg
               have HLa := (HL7.out.below HAL.out).below (below_drewN (Below.refl _ _) 1)
               have q8 := (HLa.bk2 hg).four
               have HP := Aside.mk (HLa.put hg HO1)
               rw [hone] at HP
               clear HO1 HB1 hg hat)
            all_goals
              go_wp2
              exact ⟨⟨F2, m2, dn ++ [f], _, _, rfl, rfl, ⟨HF2.out, HN.out.1, HN.out.2.1⟩, HP⟩, HN.out.2.2⟩
        | false =>
          have HW3 := Aside.mk (show rawV s = some ⟨a, v, fs, items d⟩ by
            rw [HW2.out, HK.out.2.1, show todo false F = [] from rfl, List.append_nil, HK.out.2.2])
          have HWF : Aside (∀ f ∈ fs, f.val.size ≤ 9223372036854775807) := ⟨fun f hf => by
            have h1 : items c = dn := by rw [HK.out.2.1]; exact List.append_nil _
            have h := flds_sizes c.size dn fs HK.out.2.2 (fun x hx => items_size (h1 ▸ hx)) f hf
            have := HZ2.out.2.2.1
            omega⟩
          have HB0 := Aside.mk HL.out.next
          have HCF := Aside.mk hcF
          clear q0 p0 HL HK HW2 hcF
          obtain ⟨bD, hbD⟩ : ∃ b, b = decide (d.size = 0) := ⟨_, rfl⟩
          have hem : d.toList.isEmpty = bD := by rw [hbD]; exact empty_iff d
          have HT := Aside.mk (show items d = [] ++ todo (!bD) d by rw [hbD]; exact todo_items d)
          have HDL := Aside.mk (items_len d)
          clear hbD
          go_wp2_with fail
          rename World => wb
          obtain ⟨b2, hb2⟩ : ∃ b2, b2 = wb.heap.size := ⟨_, rfl⟩
          rw [← hb2] at HB0
          clear hb2
          go_loopw [9, 16] (fun x m wr => ∃ (F : ByteArray) (g : Bool) (rs : List ByteArray) (vR : Value), x = .string F ∧ m = .bool g ∧ Aside (F.size ≤ d.size ∧ items d = rs ++ todo g F) ∧ Aside (RfB w wr w.heap.size R b2 a v AF cF fs vR rs)) (fun x m _ => (todo (boolV m) (strV x)).length)
          case atStart => exact ⟨d, _, [], _, rfl, rfl, ⟨Nat.le_refl _, HT.out⟩, HB0⟩
          case round =>
            clear HB0 hem HT
            obtain ⟨F, g, rs, vR, rfl, rfl, HK, HL⟩ := hrel
            obtain ⟨AR, cR, rfl, hcR⟩ := HL.out.own.sl.frm
            have q0 := HL.out.bk.four
            have p0 := HL.out.bg.four
            cases g with
            | true =>
              have HFZ := Aside.mk (Nat.lt_of_le_of_lt HK.out.1 HZ2.out.2.2.2)
              have HMr := Aside.mk (HM.out.below HL.out.bel)
              go_wp2_with fail
              refine (cutC F 44 _ HFZ.out HMr.out).mono ?_
              rintro e w7 ⟨rfl, hdr⟩
              have HL7 := Aside.mk (HL.out.below hdr.below)
              have q7 := HL7.out.bk.four
              clear q0 p0 hdr HL HMr
              have HTS := Aside.mk (todo_step F)
              have HF2 := Aside.mk (Nat.le_trans (cut2_le 44 F) HK.out.1)
              generalize cut1 44 F = f at *
              generalize cut2 44 F = F2 at *
              generalize cut3 44 F = m2 at *
              have HLN : Aside ((rs.length + 1) * 16 ≤ 140737488355328) := ⟨by
                have h1 := HDL.out
                have h2 := congrArg List.length HK.out.2
                rw [List.length_append] at h2
                have := HZ2.out.2.2.2
                omega⟩
              have hone : ∀ x : ByteArray, (rs ++ [x]).length = rs.length + 1 := fun x => by simp
              go_wp2_with (at_builtin
                           refine append_one (w0 := w7) str b2 rfl (.tmp 89) (.tmp 91) 34 9 (.string ByteArray.empty) 16 rfl Tryz.underlying34 infoStJ rfl Nat.one_pos (Nat.succ_pos _) (.slice AR rs.length cR) rs f [.string f] (fun _ => False) rfl rfl rfl HL7.out.own (Below.refl _ _) HL7.out.le HLN.out ?_
                           intro v1 w8 HO1 HB1 hg hat
                           obtain ⟨AX, cX, rfl, hcX⟩ := HO1.sl.frm
                           have q8 := (HL7.out.bk2 hg).four
                           have HP := Aside.mk (HL7.out.put hg HO1)
                           rw [hone] at HP
                           clear HO1 HB1 hg hat)
              have HN : Aside (items d = (rs ++ [f]) ++ todo m2 F2 ∧ (todo m2 F2).length < (todo true F).length) := ⟨by rw [HK.out.2, HTS.out]; simp, by rw [HTS.out]; exact Nat.lt_succ_self _⟩
              exact ⟨⟨F2, m2, rs ++ [f], _, rfl, rfl, ⟨HF2.out, HN.out.1⟩, HP⟩, HN.out.2⟩
            | false =>
              have hid : items d = rs := by rw [HK.out.2]; exact List.append_nil _
              rw [hid] at HW3
              obtain ⟨r, hr⟩ : ∃ r : Rec, r = ⟨a, v, fs, rs⟩ := ⟨_, rfl⟩
              rw [← hr] at HW3
              have e1 : a = r.id := by rw [hr]
              have e2 : v = r.cats := by rw [hr]
              have e3 : fs = r.fields := by rw [hr]
              have e4 : rs = r.refs := by rw [hr]
              have HQ := Aside.mk (read_some HW3.out)
              clear hr hid HK
              rw [e1, e2, e3, e4] at HL q0
              rw [e3] at HCF
              rw [e4] at hcR
              have HCR := Aside.mk hcR
              rw [e3] at HWF
              clear e1 e2 e3 e4 hcR p0
              go_wp2_with fail
              refine (refRecord r AF AR cF cR _ _ HWF.out _ HL.out.rf HL.out.own.row.2.2).mono ?_
              rintro e w9 ⟨rfl, hb9⟩
              have HL9 := Aside.mk (HL.out.below hb9)
              have q9 := HL9.out.bg.four
              have qb := HL9.out.bk.four
              clear hb9 q0 HL
              by_cases h0 : recErr r = 0
              · have HH := Aside.mk (show readE s = 0 ∧ readR s = r from ⟨HQ.out.1.trans h0, HQ.out.2.trans (if_pos h0)⟩)
                rw [h0]
                clear h0
                go_wp2_with fail
                rw [HH.out.1, HH.out.2]
                refine bodyPost_ret (v := .tuple #[.agg #[.string r.id, .int .i64 r.cats, .slice AF r.fields.length cF, .slice AR r.refs.length cR], .int .i64 0]) ?_ rfl ⟨.slice AF r.fields.length cF, .slice AR r.refs.length cR, rfl, ⟨_, _, rfl, HCF.out, ?_⟩, ⟨_, _, rfl, HCR.out, ?_⟩, ?_⟩
                · simp [results, Tryz.results117, go_sem, q9]
                · refine (HL9.out.rf.move fun k hk hl => sets_four fun e => ?_).mono fun k hk _ => ?_
                  · have := HL9.out.gl
                    omega
                  · have := HL9.out.gl
                    omega
                · refine (HL9.out.own.row.2.2.move fun k hk hl => sets_four fun e => ?_).mono fun k hk _ => ?_
                  · have h1 := (HL9.out.own.lt k (hk.elim False.elim id)).1
                    have h2 := HL9.out.gl
                    have h3 := HL9.out.lt
                    omega
                  · have h1 := (HL9.out.own.lt k (hk.elim False.elim id)).1
                    have h2 := HL9.out.gl
                    have h3 := HL9.out.lt
                    omega
                · exact below_four HL9.out.bel (Nat.le_refl _) _ _ _ _
              · have HH := Aside.mk (show readE s = recErr r ∧ readR s = noRec from ⟨HQ.out.1, HQ.out.2.trans (if_neg h0)⟩)
                have g0 : (recErr r != 0) = true := by simp [h0]
                clear h0
                go_wp2_with fail
                rw [HH.out.1, HH.out.2]
                refine bodyPost_ret (v := .tuple #[.agg #[.string ⟨#[]⟩, .int .i64 0, .slice none 0 0, .slice none 0 0], .int .i64 (recErr r)]) ?_ rfl ⟨.slice none 0 0, .slice none 0 0, rfl, Sl.nil _ _ _, Sl.nil _ _ _, ?_⟩
                · simp [results, Tryz.results117, go_sem, q9]
                · exact below_four HL9.out.bel (Nat.le_refl _) _ _ _ _
  · have H := Aside.mk (read_none (raw_len h4))
    have g1 : (((Lib.countB s (one 59) : Nat) : Int) == 3) = false := beq_eq_false_iff_ne.2 (by omega)
    have g2 : (((Lib.countB s (one 59) : Nat) : Int) != 3) = true := by rw [bne, g1]; rfl
    clear h4 hpl
    go_enter Tryz.func117, Tryz.ntmps117
    go_wp2_with fail
    refine (cntC s 59 _).mono ?_
    rintro e w' ⟨rfl, rfl⟩
    go_wp2_with fail
    rw [H.out.1, H.out.2]
    refine bodyPost_ret (v := .tuple #[.agg #[.string ⟨#[]⟩, .int .i64 0, .slice none 0 0, .slice none 0 0], .int .i64 10]) ?_ rfl ⟨.slice none 0 0, .slice none 0 0, rfl, Sl.nil _ _ _, Sl.nil _ _ _, ?_⟩
    · simp [results, Tryz.results117, go_sem, q0]
    · exact HB.out
end Go.Proofs.WK
