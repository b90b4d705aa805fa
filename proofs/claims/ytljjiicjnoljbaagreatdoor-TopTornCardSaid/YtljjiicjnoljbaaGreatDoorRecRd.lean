/-
  record.Read (P20).
-/
import Derived.Test.YtljjiicjnoljbaaGreatDoorAtoi
import Derived.Test.YtljjiicjnoljbaaGreatDoorRec0
namespace Go.Proofs.WK
open Go.RowKit Rp
theorem beq_bs (a b : ByteArray) : (a.toList == b.toList) = decide (a = b) := toList_beq a b
theorem below_four {w w1 : World} {k : Nat} (h : Below w.heap.size w w1) (hk : w.heap.size ≤ k) (c d e f : Value) : Below w.heap.size w ((((w1.setCell ⟨k, 0, none⟩ c).setCell ⟨k, 1, none⟩ d).setCell ⟨k, 2, none⟩ e).setCell ⟨k, 3, none⟩ f) :=
  below_set (below_set (below_set (below_set h hk _) hk _) hk _) hk _
theorem sets_four {w2 : World} {m k : Nat} {c d e f : Value} (h2 : k ≠ m) : ((((w2.setCell ⟨m, 0, none⟩ c).setCell ⟨m, 1, none⟩ d).setCell ⟨m, 2, none⟩ e).setCell ⟨m, 3, none⟩ f).heap[k]? = w2.heap[k]? := by
  rw [Below.heap_setCell _ _ _ k h2, Below.heap_setCell _ _ _ k h2, Below.heap_setCell _ _ _ k h2, Below.heap_setCell _ _ _ k h2]
theorem raw_len {s : ByteArray} (h : (parts 59 s).length ≠ 4) : rawV s = none := by
  unfold rawV
  split
  · rename_i e
    rw [e] at h
    exact absurd rfl h
  · rfl
theorem raw_four {s a b c d : ByteArray} (h : parts 59 s = [a, b, c, d]) : rawV s = match numV b, fldsV (items c) with | some n, some fs => some ⟨a, n, fs, items d⟩ | _, _ => none := by
  unfold rawV
  rw [h]
  rfl
theorem read_none {s : ByteArray} (h : rawV s = none) : readE s = 10 ∧ readR s = noRec := by
  unfold readE readR
  rw [h]
  exact ⟨rfl, rfl⟩
theorem read_some {s : ByteArray} {r : Rec} (h : rawV s = some r) : readE s = recErr r ∧ readR s = if recErr r = 0 then r else noRec := by
  unfold readE readR
  rw [h]
  exact ⟨rfl, rfl⟩
theorem len_four {l : List ByteArray} (h : l.length = 4) : ∃ a b c d, l = [a, b, c, d] := by
  match l, h with
  | [a, b, c, d], _ => exact ⟨a, b, c, d, rfl⟩
/-- The words' cells. -/
theorem four_cells {w : World} {ok : Nat → Prop} {B : Nat} {a b c d : ByteArray} (h : str.Row w ok (some ⟨B, 0, none⟩) [a, b, c, d]) :
    w.cell? ⟨B, 0, none⟩ = some (.string a) ∧ w.cell? ⟨B, 1, none⟩ = some (.string b) ∧ w.cell? ⟨B, 2, none⟩ = some (.string c) ∧ w.cell? ⟨B, 3, none⟩ = some (.string d) := by
  obtain ⟨_, e0, _, x0⟩ := str_at h (show 0 < 4 by decide)
  obtain ⟨_, e1, _, x1⟩ := str_at h (show 1 < 4 by decide)
  obtain ⟨_, e2, _, x2⟩ := str_at h (show 2 < 4 by decide)
  obtain ⟨_, e3, _, x3⟩ := str_at h (show 3 < 4 by decide)
  cases e0; cases e1; cases e2; cases e3
  exact ⟨x0, x1, x2, x3⟩
theorem extract_le (s : ByteArray) (i j : Nat) : (s.extract i j).size ≤ s.size := by rw [ByteArray.size_extract]; omega
theorem parts_size (c : UInt8) : ∀ (k : Nat) (s : ByteArray), Lib.countB s (one c) = k → ∀ x ∈ parts c s, x.size ≤ s.size := by
  intro k
  induction k with
  | zero =>
    intro s hk x hx
    rcases Lib.indexB_cases s (one c) with h | ⟨i, h, _⟩
    · rw [parts_miss h, List.mem_singleton] at hx
      rw [hx]
      exact Nat.le_refl _
    · rw [Lib.countB_hit s (one c) i (Nat.le_refl _) h] at hk
      omega
  | succ k ih =>
    intro s hk x hx
    rcases Lib.indexB_cases s (one c) with h | ⟨i, h, _⟩
    · rw [Lib.countB_miss s (one c) h] at hk
      omega
    · rw [Lib.countB_hit s (one c) i (Nat.le_refl _) h] at hk
      rw [parts_hit h, List.mem_cons] at hx
      rcases hx with rfl | hx
      · exact extract_le _ _ _
      · exact Nat.le_trans (ih _ (by rw [show i + (one c).size = i + 1 from rfl] at hk; omega) x hx) (extract_le _ _ _)
/-- What stays while a record is read. -/
def RdI (w W : World) (G B : Nat) (l : List ByteArray) : Prop :=
  Bk W G [.string ⟨#[]⟩, .int .i64 0, .slice none 0 0, .slice none 0 0] ∧ str.Row W (fun _ => True) (some ⟨B, 0, none⟩) l ∧ MaxCell W ∧ PowTab W ∧ ErrCells W ∧ Below w.heap.size w W
theorem RdI.below {w W W2 : World} {G B : Nat} {l : List ByteArray} (h : RdI w W G B l) (hb : Below W.heap.size W W2) : RdI w W2 G B l :=
  ⟨h.1.below hb, h.2.1.below hb, h.2.2.1.below hb, h.2.2.2.1.below hb, h.2.2.2.2.1.below hb, below_step h.2.2.2.2.2 hb⟩
theorem RdI.max {w W : World} {G B : Nat} {l : List ByteArray} (h : RdI w W G B l) : MaxCell W := h.2.2.1
theorem RdI.pow {w W : World} {G B : Nat} {l : List ByteArray} (h : RdI w W G B l) : PowTab W := h.2.2.2.1
theorem RdI.err {w W : World} {G B : Nat} {l : List ByteArray} (h : RdI w W G B l) : ErrCells W := h.2.2.2.2.1
theorem RdI.bel {w W : World} {G B : Nat} {l : List ByteArray} (h : RdI w W G B l) : Below w.heap.size w W := h.2.2.2.2.2
abbrev RdS (w1 W : World) (B : Nat) (a d : ByteArray) : Prop := W.cell? ⟨B, 0, none⟩ = some (.string a) ∧ W.cell? ⟨B, 3, none⟩ = some (.string d) ∧ Aside (Below w1.heap.size w1 W)
theorem RdS.of {w w1 W : World} {G B : Nat} {a b c d : ByteArray} (h : RdI w w1 G B [a, b, c, d]) (hb : Below w1.heap.size w1 W) : RdS w1 W B a d := by
  obtain ⟨q1, _, _, q4⟩ := four_cells (h.below hb).2.1
  exact ⟨q1, q4, ⟨hb⟩⟩
theorem RdS.bel {w1 W : World} {B : Nat} {a d : ByteArray} (h : RdS w1 W B a d) : Below w1.heap.size w1 W := h.2.2.out
theorem RdB.of {w w1 W : World} {G B : Nat} {a b c d : ByteArray} (h : RdI w w1 G B [a, b, c, d]) (hb : Below w1.heap.size w1 W) : W.cell? ⟨B, 1, none⟩ = some (.string b) ∧ Aside (Below w1.heap.size w1 W) :=
  ⟨(four_cells (h.below hb).2.1).2.1, ⟨hb⟩⟩
abbrev RdC (w1 W : World) (R : Nat) (a : ByteArray) (n : Int) (d : ByteArray) (A3 : Option Addr) (c3 : Nat) : Prop :=
  Below w1.heap.size w1 W ∧ Bk W R [.string a, .int .i64 n, .slice none 0 0, .slice A3 (items d).length c3] ∧ str.Row W (fun k => w1.heap.size ≤ k ∧ k ≠ R) A3 (items d) ∧ (items d).length ≤ c3 ∧ w1.heap.size ≤ R
theorem RdC.below {w1 W W2 : World} {R : Nat} {a d : ByteArray} {n : Int} {A3 : Option Addr} {c3 : Nat} (h : RdC w1 W R a n d A3 c3) (hb : Below W.heap.size W W2) : RdC w1 W2 R a n d A3 c3 :=
  ⟨below_step h.1 hb, h.2.1.below hb, h.2.2.1.below hb, h.2.2.2.1, h.2.2.2.2⟩
theorem RdC.cats {w1 W : World} {R : Nat} {a d : ByteArray} {n : Int} {A3 : Option Addr} {c3 : Nat} (h : RdC w1 W R a n d A3 c3) (m : Int) : RdC w1 (W.setCell ⟨R, 1, none⟩ (.int .i64 m)) R a m d A3 c3 :=
  ⟨below_set h.1 h.2.2.2.2 _, h.2.1.set 1 _, h.2.2.1.move fun k hk _ => Below.heap_setCell _ _ _ k hk.2, h.2.2.2.1, h.2.2.2.2⟩
theorem drew_alloc_lt (w : World) (o : Obj) : w.heap.size < (w.alloc o).drew.heap.size := Nat.lt_of_lt_of_le (Nat.lt_succ_self _) (Nat.le_of_eq (by simp))
theorem RdC.one {w1 w3 : World} {m : Nat} {a d : ByteArray} {A3 : Option Addr} {c3 : Nat} (hb : Below w1.heap.size w1 w3) (h3 : (items d).length ≤ c3 ∧ str.Row w3 (fun k => m ≤ k) A3 (items d)) (hm : w1.heap.size < m)
    (hq : Bk w3 w1.heap.size [.string ⟨#[]⟩, .int .i64 0, .slice none 0 0, .slice none 0 0]) :
    RdC w1 ((((w3.setCell ⟨w1.heap.size, 0, none⟩ (.string a)).setCell ⟨w1.heap.size, 1, none⟩ (.int .i64 0)).setCell ⟨w1.heap.size, 2, none⟩ (.slice none 0 0)).setCell ⟨w1.heap.size, 3, none⟩ (.slice A3 (items d).length c3)) w1.heap.size a 0 d A3 c3 :=
  ⟨below_four hb (Nat.le_refl _) _ _ _ _, (((hq.set 0 _).set 1 _).set 2 _).set 3 _, (h3.2.move fun k hk _ => sets_four (by omega)).mono fun k hk _ => by omega, h3.1, Nat.le_refl _⟩
theorem RdC.two {w1 w3 : World} {a d : ByteArray} {A3 : Option Addr} {c3 : Nat} (hb : Below w1.heap.size w1 w3) (h3 : (items d).length ≤ c3 ∧ str.Row w3 (fun k => w1.drew.heap.size ≤ k) A3 (items d)) :
    RdC w1 (w3.alloc (.cells #[.string a, .int .i64 0, .slice none 0 0, .slice A3 (items d).length c3] 36)) w3.heap.size a 0 d A3 c3 :=
  ⟨hb.alloc hb.size _, Bk.made w3 [.string a, .int .i64 0, .slice none 0 0, .slice A3 (items d).length c3] 36, (h3.2.mono (ok' := fun k => w1.heap.size ≤ k ∧ k ≠ w3.heap.size) fun k hk hl => ⟨hk, by omega⟩).below ((Below.refl _ _).alloc (Nat.le_refl _) _), h3.1, hb.size⟩
/-- While the fields are read. -/
structure RdL (w1 W : World) (base R : Nat) (a : ByteArray) (n : Int) (c d : ByteArray) (A3 : Option Addr) (c3 : Nat) (Ac : Option Addr) (v : Value) (fs : List Fld) : Prop where
  bel : Below w1.heap.size w1 W
  bk : Bk W R [.string a, .int .i64 n, v, .slice A3 (items d).length c3]
  rd : str.Row W (fun k => w1.heap.size ≤ k ∧ k ≠ R ∧ k < base) A3 (items d)
  rc : str.Row W (fun k => k ≠ R ∧ k < base) Ac (items c)
  own : fldR.Own 38 W base (fun _ => False) v fs
  le : base ≤ W.heap.size
  lt : R < base
  ge : w1.heap.size ≤ R
theorem RdL.below {w1 W W2 : World} {base R : Nat} {a c d : ByteArray} {n : Int} {A3 : Option Addr} {c3 : Nat} {Ac : Option Addr} {v : Value} {fs : List Fld} (h : RdL w1 W base R a n c d A3 c3 Ac v fs) (hb : Below W.heap.size W W2) : RdL w1 W2 base R a n c d A3 c3 Ac v fs :=
  ⟨below_step h.bel hb, h.bk.below hb, h.rd.below hb, h.rc.below hb, h.own.below hb, Nat.le_trans h.le hb.size, h.lt, h.ge⟩
theorem RdL.bk2 {w1 W W2 : World} {base R : Nat} {a c d : ByteArray} {n : Int} {A3 : Option Addr} {c3 : Nat} {Ac : Option Addr} {v : Value} {fs : List Fld} (h : RdL w1 W base R a n c d A3 c3 Ac v fs) (hg : W.grownBy W2 v.ownBlock) : Bk W2 R [.string a, .int .i64 n, v, .slice A3 (items d).length c3] := by
  obtain ⟨tt, e⟩ := h.bk
  exact ⟨tt, (hg.block R (Nat.lt_of_lt_of_le h.lt h.le) fun e => by have := (h.own.lt R e.symm).1; have := h.lt; omega).trans e⟩
theorem items_size {c x : ByteArray} (h : x ∈ items c) : x.size ≤ c.size := by
  unfold items at h
  split at h
  · cases h
  · exact parts_size 44 _ c rfl x h
theorem items_len (c : ByteArray) : (items c).length ≤ c.size + 1 := by
  unfold items
  split
  · exact Nat.zero_le _
  · rw [parts_len]
    have := Lib.countB_le (one 44) (Nat.le_refl _) c.size c (Nat.le_refl _)
    omega
theorem fldV_cut {x : ByteArray} (h : Lib.indexB x (one 61) ≠ -1) : fldV x = some ⟨cut1 61 x, cut2 61 x⟩ ∧ cut3 61 x = true := by
  unfold fldV cut1 cut2 cut3
  rw [if_neg h, if_neg h, if_neg h, decide_eq_false h]
  exact ⟨rfl, rfl⟩
theorem cut3_miss {x : ByteArray} (h : Lib.indexB x (one 61) = -1) : cut3 61 x = false := by
  unfold cut3
  rw [decide_eq_true h]
  rfl
theorem flds_more {l : List ByteArray} {k : Nat} (hk : k < l.length) {fs : List Fld} {f : Fld} (h : fldsV (l.take k) = some fs) (hf : fldV l[k] = some f) : fldsV (l.take (k + 1)) = some (fs ++ [f]) := by
  rw [List.take_succ_eq_append_getElem hk, fldsV_snoc h, hf]
  rfl
theorem RdL.put {w1 W W2 : World} {base R : Nat} {a c d : ByteArray} {n : Int} {A3 : Option Addr} {c3 : Nat} {Ac : Option Addr} {v v1 : Value} {fs fs1 : List Fld} (h : RdL w1 W base R a n c d A3 c3 Ac v fs) (hg : W.grownBy W2 v.ownBlock) (ho : fldR.Own 38 W2 base (fun _ => False) v1 fs1) :
    RdL w1 (W2.setCell ⟨R, 2, none⟩ v1) base R a n c d A3 c3 Ac v1 fs1 := by
  have hne : ∀ k, k < base → some k ≠ v.ownBlock := fun k hk e => by have := (h.own.lt k e.symm).1; omega
  have hlt := h.lt
  have hge := h.ge
  have h1 : Below w1.heap.size w1 W2 := h.bel.grown hg h.bel.size fun j hj => by have := (h.own.lt j hj).1; omega
  have hbk2 : ∀ {cs : List Value}, Bk W R cs → Bk W2 R cs := fun ⟨tt, e⟩ => ⟨tt, (hg.block R (Nat.lt_of_lt_of_le h.lt h.le) (hne R h.lt)).trans e⟩
  refine ⟨below_set h1 h.ge _, Bk.set (hbk2 h.bk) 2 _, h.rd.move fun k hk hl => ?_, h.rc.move fun k hk hl => ?_, ho.move (fun k hk => Below.heap_setCell _ _ _ k fun e => ?_) (fun k hk => hk.elim), ?_, h.lt, h.ge⟩
  · exact (Below.heap_setCell _ _ _ k hk.2.1).trans (hg.block k hl (hne k hk.2.2))
  · exact (Below.heap_setCell _ _ _ k hk.1).trans (hg.block k hl (hne k hk.2))
  · have e2 : k = R := e
    have := (ho.lt k hk).1
    omega
  · have := h.le
    have := hg.size
    rw [show (W2.setCell ⟨R, 2, none⟩ v1).heap.size = W2.heap.size by simp [World.setCell]]
    omega
theorem infoFd : (Tryz.prog.info? 38).map (fun i => (i.zero, i.size, i.bytes)) = some (some (.agg #[.string ByteArray.empty, .string ByteArray.empty]), 2, 32) := by kernel_rfl
set_option maxRecDepth 100000 in
set_option maxHeartbeats 4000000 in
theorem recRead (s : ByteArray) (w : World) (hs : s.size < 4294967281) (hm : MaxCell w) (hp : PowTab w) (he : ErrCells w) :
    Calls Tryz.prog 184 #[.string s] w fun e w' => ∃ v1 v2, e = .returned (.tuple #[.agg #[.string (readR s).id, .int .i64 (readR s).cats, v1, v2], .int .i64 (readE s)]) ∧ fldR.Sl w' (fun k => w.heap.size ≤ k) v1 (readR s).fields ∧ str.Sl w' (fun k => w.heap.size ≤ k) v2 (readR s).refs ∧ Below w.heap.size w w' := by
  have hb1 : Below w.heap.size w (w.alloc (.cells #[.string ⟨#[]⟩, .int .i64 0, .slice none 0 0, .slice none 0 0] 36)) := (Below.refl _ _).alloc (Nat.le_refl _) _
  have HQ := Aside.mk (Bk.made w [.string ⟨#[]⟩, .int .i64 0, .slice none 0 0, .slice none 0 0] 36)
  have HL := Aside.mk (show MaxCell _ ∧ PowTab _ ∧ ErrCells _ from ⟨hm.below hb1, hp.below hb1, he.below hb1⟩)
  have HB := Aside.mk hb1
  have HZ := Aside.mk hs
  have HS := Aside.mk (splitC s 59 (w.alloc (.cells #[.string ⟨#[]⟩, .int .i64 0, .slice none 0 0, .slice none 0 0] 36)) hs HL.out.1)
  have hsz : (w.alloc (.cells #[.string ⟨#[]⟩, .int .i64 0, .slice none 0 0, .slice none 0 0] 36)).heap.size = w.heap.size + 1 := by simp
  rw [hsz] at HS
  have HSZ := Aside.mk hsz
  clear hsz
  clear hm hp he hb1 hs
  by_cases h4 : (parts 59 s).length = 4
  · obtain ⟨a, b, c, d, hps⟩ := len_four h4
    have HW := Aside.mk (raw_four hps)
    have HZ2 : Aside (a.size < 4294967281 ∧ b.size < 4294967281 ∧ c.size < 4294967281 ∧ d.size < 4294967281) := ⟨by
      have h := parts_size 59 _ s rfl
      rw [hps] at h
      have hz := HZ.out
      exact ⟨Nat.lt_of_le_of_lt (h a (by simp)) hz, Nat.lt_of_le_of_lt (h b (by simp)) hz, Nat.lt_of_le_of_lt (h c (by simp)) hz, Nat.lt_of_le_of_lt (h d (by simp)) hz⟩⟩
    rw [hps] at HS
    clear hps h4
    go_enter Tryz.func184, Tryz.ntmps184
    go_wp2_with fail
    refine HS.out.mono ?_
    rintro e w1 ⟨rfl, hr, hb⟩
    rw [← HSZ.out] at hb
    have q1 := four_cells hr
    have hi : RdI w w1 w.heap.size (w.heap.size + 1) [a, b, c, d] := ⟨HQ.out.below hb, hr.mono fun _ _ _ => trivial, HL.out.1.below hb, HL.out.2.1.below hb, HL.out.2.2.below hb, below_step HB.out hb⟩
    have HI := Aside.mk hi
    clear HQ HL HB HS hr hb hi HSZ
    obtain ⟨B, hB⟩ : ∃ B, B = w.heap.size + 1 := ⟨_, rfl⟩
    rw [← hB] at q1 HI ⊢
    have HBE := Aside.mk hB
    clear hB
    go_upto_region 4 with fail
    go_cut [5] (fun p wx => ∃ R A3 c3, p = .pointer (some ⟨R, 0, none⟩) ∧ Aside (Below w1.heap.size w1 wx ∧ Bk wx R [.string a, .int .i64 0, .slice none 0 0, .slice A3 (items d).length c3] ∧ str.Row wx (fun k => w1.heap.size ≤ k ∧ k ≠ R) A3 (items d) ∧ (items d).length ≤ c3 ∧ w1.heap.size ≤ R))
    case first =>
      have hbD : Below w1.heap.size w1 w1.drew := (Below.refl _ _).drew
      have hbA : Below w1.heap.size w1 (w1.alloc (.cells #[.string ⟨#[]⟩, .int .i64 0, .slice none 0 0, .slice none 0 0] 36)).drew := ((Below.refl _ _).alloc (Nat.le_refl _) _).drew
      go_region_held3 (fun w' => w'.cell? ⟨B, 0, none⟩ = some (.string a) ∧ w'.cell? ⟨B, 3, none⟩ = some (.string d) ∧ Aside (Below w1.heap.size w1 w'))
        (first
         | with_reducible exact RdS.of HI.out hbD
         | assumption
         | with_reducible exact RdS.of HI.out hbA
         | with_reducible exact RdS.of HI.out ((RdS.bel (B := B) (a := a) (d := d) (by assumption)).alloc (RdS.bel (B := B) (a := a) (d := d) (by assumption)).size _)
         | with_reducible exact RdS.of HI.out (below_four (RdS.bel (B := B) (a := a) (d := d) (by assumption)) (Nat.le_refl _) _ _ _ _)
         | with_reducible exact RdS.of HI.out (below_four ((RdS.bel (B := B) (a := a) (d := d) (by assumption)).alloc (RdS.bel (B := B) (a := a) (d := d) (by assumption)).size _) (RdS.bel (B := B) (a := a) (d := d) (by assumption)).size _ _ _ _))
        (first
         | (go_at_call 253
            with_reducible refine (recSplit d (w1.alloc (.cells #[.string ⟨#[]⟩, .int .i64 0, .slice none 0 0, .slice none 0 0] 36)).drew HZ2.out.2.2.2 (RdI.max (HI.out.below hbA))).mono ?_
            rintro e w3 ⟨A3, c3, rfl, hc3, hr3, hb3⟩
            have H3 := Aside.mk (And.intro hc3 hr3)
            have hx := RdS.of HI.out (below_step hbA hb3)
            have HB3 := Aside.mk ((Bk.made w1 [.string ⟨#[]⟩, .int .i64 0, .slice none 0 0, .slice none 0 0] 36).drew.below hb3)
            have q3 := ((Bk.made w1 [.string ⟨#[]⟩, .int .i64 0, .slice none 0 0, .slice none 0 0] 36).drew.below hb3).four
            clear hc3 hr3 hb3)
         | (go_at_call 253
            with_reducible refine (recSplit d w1.drew HZ2.out.2.2.2 (RdI.max (HI.out.below hbD))).mono ?_
            rintro e w3 ⟨A3, c3, rfl, hc3, hr3, hb3⟩
            have H3 := Aside.mk (And.intro hc3 hr3)
            have hx := RdS.of HI.out (below_step hbD hb3)
            clear hc3 hr3 hb3))
      all_goals
        clear q1
        go_wp2
        go_meet
        refine ⟨_, A3, c3, rfl, ⟨?_⟩⟩
        first
        | with_reducible exact RdC.two (RdS.bel hx) H3.out
        | with_reducible exact RdC.one (RdS.bel hx) H3.out (drew_alloc_lt w1 _) HB3.out
    case rest =>
      obtain ⟨R, A3, c3, rfl, HC⟩ := hcut
      clear q1
      rename World => w2
      have HI2 := Aside.mk (HI.out.below HC.out.1)
      have p2 := four_cells HI2.out.2.1
      go_wp2_with fail
      refine (atoiC b _ (Nat.le_of_lt (Nat.lt_of_lt_of_le HZ2.out.2.1 (by decide))) HI2.out.err).mono ?_
      rintro e w3 ⟨v, ev, rfl, hev, hb3⟩
      have HC3 := Aside.mk (RdC.below (w1 := w1) HC.out hb3)
      have HI3 := Aside.mk (HI2.out.below hb3)
      clear HC hb3 p2 HI2
      have p3 := four_cells HI3.out.2.1
      have q3 := HI3.out.1.four
      rcases hev with ⟨rfl, hv, hv0, hv1⟩ | ⟨⟨tt, pp, rfl⟩, hv⟩
      · by_cases h9 : 9 < b.size
        · have H := Aside.mk (read_none (s := s) (by rw [HW.out, numV_long h9]))
          have g9 : decide ((9 : Int) < (b.size : Int)) = true := decide_eq_true (by omega)
          go_upto_region 6 with fail
          go_quiet (fail)
          go_wp2_with fail
          rw [H.out.1, H.out.2]
          refine bodyPost_ret (v := .tuple #[.agg #[.string ⟨#[]⟩, .int .i64 0, .slice none 0 0, .slice none 0 0], .int .i64 10]) ?_ rfl ⟨.slice none 0 0, .slice none 0 0, rfl, Sl.nil _ _ _, Sl.nil _ _ _, ?_⟩
          · simp [results, Tryz.results184, go_sem, q3]
          · exact below_four (below_drewN HI3.out.bel _) (Nat.le_refl _) _ _ _ _
        · have hn := numV_ok hv (by omega)
          have g9 : decide ((9 : Int) < (b.size : Int)) = false := decide_eq_false (by omega)
          have hds := decS_len hv0 hv1
          have HD : Aside (b.size < 4294967281) := ⟨by omega⟩
          by_cases hb9 : decS v = b
          · rw [if_pos hb9] at hn
            have HW2 := Aside.mk (show rawV s = match fldsV (items c) with | some fs => some ⟨a, v, fs, items d⟩ | none => none by rw [HW.out, hn]; cases fldsV (items c) <;> rfl)
            have g1 : ((decS v).toList == b.toList) = true := by rw [toList_beq, decide_eq_true hb9]
            have g2 : ((decS v).toList != b.toList) = false := by rw [bne, g1]; rfl
            clear hb9 hn hds hv HW
            go_upto_region 6 with fail
            go_region_held3 (fun w' => w'.cell? ⟨B, 1, none⟩ = some (.string b) ∧ Aside (Below w3.heap.size w3 w'))
              (first
               | with_reducible exact RdB.of HI3.out (Below.refl w3.heap.size w3).drew
               | assumption)
              (first
               | (go_at_call 62
                  with_reducible refine (itoaC v hv0 hv1 w3.drew (HI3.out.below (Below.refl w3.heap.size w3).drew).pow).mono ?_
                  rintro e w4 ⟨rfl, hb4⟩
                  have hx := RdB.of HI3.out (below_step (Below.refl w3.heap.size w3).drew hb4)
                  clear hb4))
            have HC4 := Aside.mk (RdC.below (w1 := w1) HC3.out hx.2.out)
            clear q3 p3 HC3 HI3 hx
            rename World => w4
            have q4 := HC4.out.2.1.four
            go_upto_region 9 with fail
            generalize hw5 : w4.setCell ⟨R, 1, none⟩ (.int .i64 v) = w5
            have HC5 := Aside.mk (RdC.cats (w1 := w1) HC4.out v)
            rw [hw5] at HC5
            clear hw5 HC4 q4
            have HI5 := Aside.mk (HI.out.below HC5.out.1)
            have p5 := four_cells HI5.out.2.1
            go_wp2_with fail
            refine (recSplit c _ HZ2.out.2.2.1 HI5.out.max).mono ?_
            rintro e w6 ⟨Ac, cc, rfl, hcc, hrc, hb6⟩
            have HB6 : Aside (∃ base, base = w6.heap.size ∧ RdL w1 w6 base R a v c d A3 c3 Ac (.slice none 0 0) []) := ⟨_, rfl, by
              have h := RdC.below (w1 := w1) HC5.out hb6
              have hR := HC5.out.2.1.lt
              exact ⟨h.1, h.2.1, h.2.2.1.mono fun k hk hl => ⟨hk.1, hk.2, hl⟩, hrc.mono fun k hk hl => ⟨by omega, hl⟩, Own.nil _ _ _ _ _, Nat.le_refl _, h.2.1.lt, h.2.2.2.2⟩⟩
            obtain ⟨base, hbase, hl0⟩ := HB6.out
            have HD3 := Aside.mk (show (items d).length ≤ c3 from HC5.out.2.2.2.1)
            have HL0 := Aside.mk hl0
            have HCL := Aside.mk (items_len c)
            clear HB6 hbase hl0 hcc hrc hb6 HC5 HI5 p5
            go_wp2_with fail
            go_loopw [60] (fun i wr => ∃ (k : Nat) (vF : Value) (fs : List Fld), k ≤ (items c).length ∧ i = .int .i64 k ∧ Aside (fldsV ((items c).take k) = some fs) ∧ Aside (RdL w1 wr base R a v c d A3 c3 Ac vF fs)) (fun i _ => (items c).length - (intOf i).toNat)
            case atStart => exact ⟨0, _, _, Nat.zero_le _, rfl, ⟨rfl⟩, HL0⟩
            case round =>
              clear HL0
              obtain ⟨k, vF, fs, hk, rfl, HK, HL⟩ := hrel
              obtain ⟨AF, cF, rfl, hcF⟩ := HL.out.own.sl.frm
              have q0 := HL.out.bk.four
              by_cases hlt : k < (items c).length
              · obtain ⟨ad, rfl, _, x0⟩ := str_at HL.out.rc hlt
                have HM := Aside.mk (List.getElem_mem hlt)
                have HXZ := Aside.mk (Nat.lt_of_le_of_lt (items_size HM.out) HZ2.out.2.2.1)
                have HIr := Aside.mk (HI.out.below HL.out.bel)
                by_cases hxe : Lib.indexB (items c)[k] (one 61) = -1
                · have hc3 := cut3_miss hxe
                  have H := Aside.mk (read_none (s := s) (by rw [HW2.out, fldsV_bad HM.out (fldV_miss hxe)]))
                  clear hxe
                  go_wp2_with fail
                  refine (cutC (items c)[k] 61 _ HXZ.out HIr.out.max).mono ?_
                  rintro e w7 ⟨rfl, hdr⟩
                  rw [hc3]
                  have HI7 := Aside.mk (HIr.out.below hdr.below)
                  have q7 := HI7.out.1.four
                  clear q0 hdr
                  go_wp2_with fail
                  rw [H.out.1, H.out.2]
                  refine bodyPost_ret (v := .tuple #[.agg #[.string ⟨#[]⟩, .int .i64 0, .slice none 0 0, .slice none 0 0], .int .i64 10]) ?_ rfl ⟨.slice none 0 0, .slice none 0 0, rfl, Sl.nil _ _ _, Sl.nil _ _ _, ?_⟩
                  · simp [results, Tryz.results184, go_sem, q7]
                  · exact below_four HI7.out.bel (Nat.le_refl _) _ _ _ _
                · obtain ⟨hfv, hc3⟩ := fldV_cut hxe
                  have HF := Aside.mk (flds_more hlt HK.out hfv)
                  have hfl := fldsV_len HK.out
                  rw [List.length_take] at hfl
                  have HLN : Aside ((fs.length + 1) * 32 ≤ 140737488355328) := ⟨by have := HCL.out; have := HZ2.out.2.2.1; omega⟩
                  have hone : ∀ x y : ByteArray, (fs ++ [(⟨x, y⟩ : Fld)]).length = fs.length + 1 := fun x y => by simp
                  have hkb : (items c).length ≤ 4294967281 := Nat.le_trans HCL.out HZ2.out.2.2.1
                  clear hxe hfv hfl
                  go_wp2_with fail
                  refine (cutC (items c)[k] 61 _ HXZ.out HIr.out.max).mono ?_
                  rintro e w7 ⟨rfl, hdr⟩
                  rw [hc3]
                  have HL7 := Aside.mk (HL.out.below hdr.below)
                  have q7 := HL7.out.bk.four
                  clear q0 hdr
                  generalize cut1 61 (items c)[k] = key at *
                  generalize cut2 61 (items c)[k] = val at *
                  go_wp2_with (at_builtin
                               refine append_one (w0 := w7) fldR base rfl (.tmp 74) (.tmp 78) 33 38 _ 32 rfl Tryz.underlying33 infoFd rfl (by decide) (by decide) (.slice AF fs.length cF) fs ⟨key, val⟩ [.string key, .string val] (fun _ => False) rfl rfl (fldK.2 rfl) HL7.out.own (Below.refl _ _) HL7.out.le HLN.out ?_
                               intro v1 w8 HO1 HB1 hg hat
                               obtain ⟨AX, cX, rfl, hcX⟩ := HO1.sl.frm
                               have q8 := (HL7.out.bk2 hg).four
                               have HP := Aside.mk (HL7.out.put hg HO1)
                               rw [hone key val] at HP
                               clear HO1 HB1 hg hat)
                  exact ⟨⟨k + 1, _, _, by omega, by go_num, HF, HP⟩, by simp [intOf]; omega⟩
              · obtain rfl : k = (items c).length := by omega
                rw [List.take_length] at HK
                have HW3 := Aside.mk (show rawV s = some ⟨a, v, fs, items d⟩ by rw [HW2.out, HK.out])
                have HIr := Aside.mk (HI.out.below HL.out.bel)
                have HG := Aside.mk (Nat.lt_of_lt_of_le HI.out.1.lt (Nat.le_refl _))
                obtain ⟨r, hr⟩ : ∃ r : Rec, r = ⟨a, v, fs, items d⟩ := ⟨_, rfl⟩
                rw [← hr] at HW3
                have e1 : a = r.id := by rw [hr]
                have e2 : v = r.cats := by rw [hr]
                have e3 : fs = r.fields := by rw [hr]
                have e4 : items d = r.refs := by rw [hr]
                have HRF := Aside.mk HL.out.own.row.2.2
                have HRG := Aside.mk HL.out.rd
                have HLB := Aside.mk (And.intro HL.out.bel (And.intro HL.out.lt HL.out.ge))
                have hown : ∀ k, (Value.slice AF fs.length cF).ownBlock = some k → base ≤ k := fun k hk => (HL.out.own.lt k hk).1
                have HOW := Aside.mk hown
                clear hown HL HK hr hk hlt
                rw [e3] at hcF q0 HRF HOW
                rw [e4] at q0 HRG HD3
                rw [e1, e2] at q0
                have HQ := Aside.mk (read_some HW3.out)
                clear e1 e2 e3 e4 HW2
                go_wp2_with fail
                refine (recCheck r AF A3 cF c3 _ _ _ HRF.out HRG.out).mono ?_
                rintro e w9 ⟨rfl, hb9⟩
                have HB9 := Aside.mk hb9
                have HI9 := Aside.mk (HIr.out.below hb9)
                have q9 := HI9.out.1.four
                by_cases h0 : recErr r = 0
                · have HH := Aside.mk (show readE s = 0 ∧ readR s = r from ⟨HQ.out.1.trans h0, HQ.out.2.trans (if_pos h0)⟩)
                  have qb : w9.cell? ⟨R, 0, none⟩ = some (.string r.id) ∧ w9.cell? ⟨R, 1, none⟩ = some (.int .i64 r.cats) ∧ w9.cell? ⟨R, 2, none⟩ = some (.slice AF r.fields.length cF) ∧ w9.cell? ⟨R, 3, none⟩ = some (.slice A3 r.refs.length c3) := ⟨cell_below hb9 q0.2.1, cell_below hb9 q0.2.2.1, cell_below hb9 q0.2.2.2.1, cell_below hb9 q0.2.2.2.2.1⟩
                  rw [h0]
                  clear q0 h0 hb9
                  go_wp2_with fail
                  rw [HH.out.1, HH.out.2]
                  refine bodyPost_ret (v := .tuple #[.agg #[.string r.id, .int .i64 r.cats, .slice AF r.fields.length cF, .slice A3 r.refs.length c3], .int .i64 0]) ?_ rfl ⟨.slice AF r.fields.length cF, .slice A3 r.refs.length c3, rfl, ⟨_, _, rfl, hcF, ?_⟩, ⟨_, _, rfl, HD3.out, ?_⟩, ?_⟩
                  · simp [results, Tryz.results184, go_sem, q9]
                  · refine ((HRF.out.below HB9.out).move fun k hk hl => sets_four fun e => ?_).mono fun k hk _ => ?_
                    · have := hk.elim False.elim (HOW.out k)
                      have := HLB.out.2
                      have := HG.out
                      omega
                    · have := hk.elim False.elim (HOW.out k)
                      have := HLB.out.2
                      have := HG.out
                      omega
                  · refine ((HRG.out.below HB9.out).move fun k hk hl => sets_four fun e => ?_).mono fun k hk _ => ?_
                    · have := HG.out
                      omega
                    · have := HG.out
                      omega
                  · exact below_four HI9.out.bel (Nat.le_refl _) _ _ _ _
                · have HH := Aside.mk (show readE s = recErr r ∧ readR s = noRec from ⟨HQ.out.1, HQ.out.2.trans (if_neg h0)⟩)
                  have g0 : (recErr r != 0) = true := by simp [h0]
                  clear q0 h0 hb9
                  go_wp2_with fail
                  rw [HH.out.1, HH.out.2]
                  refine bodyPost_ret (v := .tuple #[.agg #[.string ⟨#[]⟩, .int .i64 0, .slice none 0 0, .slice none 0 0], .int .i64 (recErr r)]) ?_ rfl ⟨.slice none 0 0, .slice none 0 0, rfl, Sl.nil _ _ _, Sl.nil _ _ _, ?_⟩
                  · simp [results, Tryz.results184, go_sem, q9]
                  · exact below_four HI9.out.bel (Nat.le_refl _) _ _ _ _
          · rw [if_neg hb9] at hn
            have H := Aside.mk (read_none (s := s) (by rw [HW.out, hn]))
            have g1 : ((decS v).toList == b.toList) = false := by rw [toList_beq, decide_eq_false hb9]
            have g2 : ((decS v).toList != b.toList) = true := by rw [bne, g1]; rfl
            clear hb9 hn hds hv
            go_upto_region 6 with fail
            go_region_held3 (fun w' => w'.cell? ⟨B, 1, none⟩ = some (.string b) ∧ Aside (Below w3.heap.size w3 w'))
              (first
               | with_reducible exact RdB.of HI3.out (Below.refl w3.heap.size w3).drew
               | assumption)
              (first
               | (go_at_call 62
                  with_reducible refine (itoaC v hv0 hv1 w3.drew (HI3.out.below (Below.refl w3.heap.size w3).drew).pow).mono ?_
                  rintro e w4 ⟨rfl, hb4⟩
                  have hx := RdB.of HI3.out (below_step (Below.refl w3.heap.size w3).drew hb4)
                  have q4 := (HI3.out.below hx.2.out).1.four
                  clear hb4))
            clear q3
            go_wp2_with fail
            rw [H.out.1, H.out.2]
            refine bodyPost_ret (v := .tuple #[.agg #[.string ⟨#[]⟩, .int .i64 0, .slice none 0 0, .slice none 0 0], .int .i64 10]) ?_ rfl ⟨.slice none 0 0, .slice none 0 0, rfl, Sl.nil _ _ _, Sl.nil _ _ _, ?_⟩
            · simp [results, Tryz.results184, go_sem, q4]
            · exact below_four (HI3.out.below hx.2.out).bel (Nat.le_refl _) _ _ _ _
      · have H := Aside.mk (read_none (s := s) (by rw [HW.out, hv]))
        clear hv
        go_upto_region 6 with fail
        go_quiet (fail)
        go_wp2_with fail
        rw [H.out.1, H.out.2]
        refine bodyPost_ret (v := .tuple #[.agg #[.string ⟨#[]⟩, .int .i64 0, .slice none 0 0, .slice none 0 0], .int .i64 10]) ?_ rfl ⟨.slice none 0 0, .slice none 0 0, rfl, Sl.nil _ _ _, Sl.nil _ _ _, ?_⟩
        · simp [results, Tryz.results184, go_sem, q3]
        · exact below_four (below_drewN HI3.out.bel _) (Nat.le_refl _) _ _ _ _
  · have H := Aside.mk (read_none (raw_len h4))
    have g1 : (((parts 59 s).length : Int) == 4) = false := beq_eq_false_iff_ne.2 (by omega)
    have g2 : (((parts 59 s).length : Int) != 4) = true := by rw [bne, g1]; rfl
    have HS2 := Aside.mk (HS.out.mono fun e w' h => (⟨h.1, HQ.out.below (HSZ.out.symm ▸ h.2.2), below_step HB.out (HSZ.out.symm ▸ h.2.2)⟩ : e = _ ∧ Bk w' w.heap.size _ ∧ Below w.heap.size w w'))
    clear HS h4
    go_enter Tryz.func184, Tryz.ntmps184
    go_wp2_with fail
    refine HS2.out.mono ?_
    rintro e w1 ⟨rfl, hq, hb⟩
    have q1 := hq.four
    have HB1 := Aside.mk hb
    clear hq hb
    go_wp2_with fail
    rw [H.out.1, H.out.2]
    refine bodyPost_ret (v := .tuple #[.agg #[.string ⟨#[]⟩, .int .i64 0, .slice none 0 0, .slice none 0 0], .int .i64 10]) ?_ rfl ⟨.slice none 0 0, .slice none 0 0, rfl, Sl.nil _ _ _, Sl.nil _ _ _, ?_⟩
    · simp [results, Tryz.results184, go_sem, q1]
    · exact below_four HB1.out (Nat.le_refl _) _ _ _ _
end Go.Proofs.WK
