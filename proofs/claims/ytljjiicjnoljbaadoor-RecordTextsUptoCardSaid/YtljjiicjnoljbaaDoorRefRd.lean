/-
  wyref.Read (P20).
-/
import Derived.Test.YtljjiicjnoljbaaDoorRecRd
import Derived.Test.YtljjiicjnoljbaaDoorRefRec
namespace Go.Proofs.WK
open Go.RowKit Rp
theorem cut_parts (c : UInt8) (s : ByteArray) : parts c s = cut1 c s :: (if cut3 c s then parts c (cut2 c s) else []) := by
  rcases Lib.indexB_cases s (one c) with h | ⟨i, h, _⟩
  · rw [parts_miss h, cut1, cut2, cut3, if_pos h, if_pos h, decide_eq_true h]
    rfl
  · have hn : ¬ Lib.indexB s (one c) = -1 := by omega
    rw [parts_hit h, cut1, cut2, cut3, if_neg hn, if_neg hn, decide_eq_false hn, h]
    rfl
theorem cut_cons {c : UInt8} {s x y : ByteArray} {l : List ByteArray} (h : parts c s = x :: y :: l) : cut1 c s = x ∧ parts c (cut2 c s) = y :: l := by
  rw [cut_parts] at h
  cases hc : cut3 c s with
  | true =>
    rw [hc] at h
    simp only [if_true] at h
    injection h with h1 h2
    exact ⟨h1, h2⟩
  | false =>
    rw [hc] at h
    simp at h
theorem parts_one {c : UInt8} {s x : ByteArray} (h : parts c s = [x]) : s = x := by
  rcases Lib.indexB_cases s (one c) with h1 | ⟨i, h1, _⟩
  · rw [parts_miss h1] at h
    injection h
  · rw [parts_hit h1] at h
    injection h with _ h2
    have := parts_len c (s.extract (i + 1) s.size)
    rw [h2] at this
    simp at this
theorem cut_four {s a b c d : ByteArray} (h : parts 59 s = [a, b, c, d]) : cut1 59 s = a ∧ cut1 59 (cut2 59 s) = b ∧ cut1 59 (cut2 59 (cut2 59 s)) = c ∧ cut2 59 (cut2 59 (cut2 59 s)) = d := by
  obtain ⟨h1, h2⟩ := cut_cons h
  obtain ⟨h3, h4⟩ := cut_cons h2
  obtain ⟨h5, h6⟩ := cut_cons h4
  exact ⟨h1, h3, h5, parts_one h6⟩
theorem cut1_le (c : UInt8) (s : ByteArray) : (cut1 c s).size ≤ s.size := by
  unfold cut1
  split
  · exact Nat.le_refl _
  · exact extract_le _ _ _
theorem cut2_le (c : UInt8) (s : ByteArray) : (cut2 c s).size ≤ s.size := by
  unfold cut2
  split
  · exact Nat.zero_le _
  · exact extract_le _ _ _
/-- What is still to be read of a list. -/
def todo (b : Bool) (s : ByteArray) : List ByteArray := if b then parts 44 s else []
theorem todo_items (s : ByteArray) : items s = todo (!decide (s.size = 0)) s := by
  unfold items todo
  by_cases h : s.size = 0
  · rw [if_pos h, decide_eq_true h]; rfl
  · rw [if_neg h, decide_eq_false h]; rfl
theorem todo_step (s : ByteArray) : todo true s = cut1 44 s :: todo (cut3 44 s) (cut2 44 s) := cut_parts 44 s
def strV : Value → ByteArray
  | .string s => s
  | _ => ⟨#[]⟩
def boolV : Value → Bool
  | .bool b => b
  | _ => false
/-- While the fields are read. -/
structure RfA (w W : World) (G R base : Nat) (a : ByteArray) (n : Int) (v : Value) (fs : List Fld) : Prop where
  bel : Below w.heap.size w W
  bg : Bk W G [.string ⟨#[]⟩, .int .i64 0, .slice none 0 0, .slice none 0 0]
  bk : Bk W R [.string a, .int .i64 n, v, .slice none 0 0]
  own : fldR.Own 46 W base (fun _ => False) v fs
  le : base ≤ W.heap.size
  lt : R < base
  gl : G < R
  wg : w.heap.size ≤ G
theorem RfA.below {w W W2 : World} {G R base : Nat} {a : ByteArray} {n : Int} {v : Value} {fs : List Fld} (h : RfA w W G R base a n v fs) (hb : Below W.heap.size W W2) : RfA w W2 G R base a n v fs :=
  ⟨below_step h.bel hb, h.bg.below hb, h.bk.below hb, h.own.below hb, Nat.le_trans h.le hb.size, h.lt, h.gl, h.wg⟩
theorem bk_grown {W W2 : World} {R : Nat} {cs : List Value} {row : Option Nat} (h : Bk W R cs) (hg : W.grownBy W2 row) (hn : some R ≠ row) : Bk W2 R cs := by
  have hl := h.lt
  obtain ⟨t, e⟩ := h
  exact ⟨t, (hg.block R hl hn).trans e⟩
theorem bk_set {W : World} {R k o : Nat} {cs : List Value} {u : Value} (h : Bk W R cs) (hn : R ≠ k) : Bk (W.setCell ⟨k, o, none⟩ u) R cs := by
  obtain ⟨t, e⟩ := h
  exact ⟨t, (Below.heap_setCell _ _ _ R hn).trans e⟩
theorem RfA.bk2 {w W W2 : World} {G R base : Nat} {a : ByteArray} {n : Int} {v : Value} {fs : List Fld} (h : RfA w W G R base a n v fs) (hg : W.grownBy W2 v.ownBlock) : Bk W2 R [.string a, .int .i64 n, v, .slice none 0 0] :=
  bk_grown h.bk hg fun e => by have := (h.own.lt R e.symm).1; have := h.lt; omega
theorem RfA.put {w W W2 : World} {G R base : Nat} {a : ByteArray} {n : Int} {v v1 : Value} {fs fs1 : List Fld} (h : RfA w W G R base a n v fs) (hg : W.grownBy W2 v.ownBlock) (ho : fldR.Own 46 W2 base (fun _ => False) v1 fs1) :
    RfA w (W2.setCell ⟨R, 2, none⟩ v1) G R base a n v1 fs1 := by
  have h1 := h.lt
  have h2 := h.gl
  have h3 := h.wg
  have hb : Below w.heap.size w W2 := h.bel.grown hg h.bel.size fun j hj => by have := (h.own.lt j hj).1; omega
  refine ⟨below_set hb (show w.heap.size ≤ R by omega) _, bk_set (bk_grown h.bg hg fun e => by have := (h.own.lt G e.symm).1; omega) (by omega), (h.bk2 hg).set 2 _, ho.move (fun k hk => Below.heap_setCell _ _ _ k fun e => ?_) (fun k hk => hk.elim), ?_, h.lt, h.gl, h.wg⟩
  · have e2 : k = R := e
    have := (ho.lt k hk).1
    omega
  · have := h.le
    have := hg.size
    rw [show (W2.setCell ⟨R, 2, none⟩ v1).heap.size = W2.heap.size by simp [World.setCell]]
    omega
/-- While the refs are read. -/
structure RfB (w W : World) (G R base : Nat) (a : ByteArray) (n : Int) (AF : Option Addr) (cF : Nat) (fs : List Fld) (v : Value) (rs : List ByteArray) : Prop where
  bel : Below w.heap.size w W
  bg : Bk W G [.string ⟨#[]⟩, .int .i64 0, .slice none 0 0, .slice none 0 0]
  bk : Bk W R [.string a, .int .i64 n, .slice AF fs.length cF, v]
  rf : fldR.Row W (fun k => R < k ∧ k < base) AF fs
  own : str.Own 9 W base (fun _ => False) v rs
  le : base ≤ W.heap.size
  lt : R < base
  gl : G < R
  wg : w.heap.size ≤ G
theorem RfB.below {w W W2 : World} {G R base : Nat} {a : ByteArray} {n : Int} {AF : Option Addr} {cF : Nat} {fs : List Fld} {v : Value} {rs : List ByteArray} (h : RfB w W G R base a n AF cF fs v rs) (hb : Below W.heap.size W W2) : RfB w W2 G R base a n AF cF fs v rs :=
  ⟨below_step h.bel hb, h.bg.below hb, h.bk.below hb, h.rf.below hb, h.own.below hb, Nat.le_trans h.le hb.size, h.lt, h.gl, h.wg⟩
theorem RfB.bk2 {w W W2 : World} {G R base : Nat} {a : ByteArray} {n : Int} {AF : Option Addr} {cF : Nat} {fs : List Fld} {v : Value} {rs : List ByteArray} (h : RfB w W G R base a n AF cF fs v rs) (hg : W.grownBy W2 v.ownBlock) : Bk W2 R [.string a, .int .i64 n, .slice AF fs.length cF, v] :=
  bk_grown h.bk hg fun e => by have := (h.own.lt R e.symm).1; have := h.lt; omega
theorem RfB.put {w W W2 : World} {G R base : Nat} {a : ByteArray} {n : Int} {AF : Option Addr} {cF : Nat} {fs : List Fld} {v v1 : Value} {rs rs1 : List ByteArray} (h : RfB w W G R base a n AF cF fs v rs) (hg : W.grownBy W2 v.ownBlock) (ho : str.Own 9 W2 base (fun _ => False) v1 rs1) :
    RfB w (W2.setCell ⟨R, 3, none⟩ v1) G R base a n AF cF fs v1 rs1 := by
  have h1 := h.lt
  have h2 := h.gl
  have h3 := h.wg
  have hb : Below w.heap.size w W2 := h.bel.grown hg h.bel.size fun j hj => by have := (h.own.lt j hj).1; omega
  refine ⟨below_set hb (show w.heap.size ≤ R by omega) _, bk_set (bk_grown h.bg hg fun e => by have := (h.own.lt G e.symm).1; omega) (by omega), (h.bk2 hg).set 3 _, h.rf.move fun k hk hl => (Below.heap_setCell _ _ _ k (fun e => ?_)).trans (hg.block k hl fun e => by have := (h.own.lt k e.symm).1; omega), ho.move (fun k hk => Below.heap_setCell _ _ _ k fun e => ?_) (fun k hk => hk.elim), ?_, h.lt, h.gl, h.wg⟩
  · have e2 : k = R := e
    omega
  · have e2 : k = R := e
    have := (ho.lt k hk).1
    omega
  · have := h.le
    have := hg.size
    rw [show (W2.setCell ⟨R, 3, none⟩ v1).heap.size = W2.heap.size by simp [World.setCell]]
    omega
/-- From the one to the other. -/
theorem RfA.next {w W : World} {G R base : Nat} {a : ByteArray} {n : Int} {AF : Option Addr} {cF : Nat} {fs : List Fld} (h : RfA w W G R base a n (.slice AF fs.length cF) fs) : RfB w W G R W.heap.size a n AF cF fs (.slice none 0 0) [] :=
  ⟨h.bel, h.bg, h.bk, h.own.row.2.2.mono fun k hk hl => ⟨by have := (h.own.lt k (hk.elim False.elim id)).1; have := h.lt; omega, hl⟩, Own.nil _ _ _ _ _, Nat.le_refl _, Nat.lt_of_lt_of_le h.lt h.le, h.gl, h.wg⟩
end Go.Proofs.WK
