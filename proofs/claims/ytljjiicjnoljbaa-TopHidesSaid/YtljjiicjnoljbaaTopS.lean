/-
  Two servers and what is said to them, in memory.
-/
import Derived.Test.YtljjiicjnoljbaaTopO
import Derived.Test.YtljjiicjnoljbaaWk0
import Derived.Test.YtljjiicjnoljbaaSameT
namespace Go.Proofs.WK
open Go.RowKit Rp
/-- Blocks ga and gb are the servers a and b, block p what may be seen; A1 and A2 what is said. X: the blocks that these lead to. -/
structure St (w0 w : World) (X : Nat → Prop) (ga gb p : Nat) (s : Int) (A1 A2 : Option Addr) (L M : List OpV) (a b : Srv) : Prop where
  sa : SrvIs w ga X a
  sb : SrvIs w gb X b
  r1 : opRp.Row w X A1 L
  r2 : opRp.Row w X A2 M
  box : Bk w p [.int .i64 s]
  bel : Below w0.heap.size w0 w
structure OpIs (w : World) (X : Nat → Prop) (n : Nat) (o : OpV) (B1 : Option Addr) (e1 : Nat) (B2 : Option Addr) (e2 : Nat) (B3 : Option Addr) (e3 : Nat) : Prop where
  bk : Bk w n (opC o B1 e1 B2 e2 B3 e3)
  r : rulR.Row w X B1 o.rules
  f : fldR.Row w X B2 o.r.fields
  g : str.Row w X B3 o.r.refs
  lf : o.r.fields.length ≤ e2
  lg : o.r.refs.length ≤ e3
/-- An answer's value. -/
def ToldV (w : World) (X : Nat → Prop) (v : Value) (t : Told) : Prop := ∃ v1 v2, v = .agg #[.int .i64 t.code, v1, v2, .slice none 0 0] ∧ verR.Sl w X v1 t.vers ∧ str.Sl w X v2 t.ids
theorem Bk.movedBy {w w' : World} {n : Nat} {cs : List Value} (h : Bk w n cs) (e : w'.heap[n]? = w.heap[n]?) : Bk w' n cs := by
  obtain ⟨t, h⟩ := h
  exact ⟨t, e.trans h⟩
variable {w0 w w' : World} {X X' : Nat → Prop} {ga gb p n : Nat} {s : Int} {A1 A2 : Option Addr} {L M : List OpV} {a b a' b' : Srv} {o : OpV} {B1 B2 B3 : Option Addr} {e1 e2 e3 : Nat} {v : Value} {t : Told}
theorem SrvIs.lt {F : Nat → Prop} {g : Nat} {s : Srv} (h : SrvIs w g F s) : g < w.heap.size := by
  obtain ⟨_, _, _, _, _, _, _, _, h0, _⟩ := h
  exact h0.lt
theorem St.below (h : St w0 w X ga gb p s A1 A2 L M a b) (hb : Below w.heap.size w w') : St w0 w' X ga gb p s A1 A2 L M a b :=
  ⟨h.sa.below hb, h.sb.below hb, h.r1.below hb, h.r2.below hb, h.box.below hb, below_step h.bel hb⟩
theorem St.mono (h : St w0 w X ga gb p s A1 A2 L M a b) (hk : ∀ k, X k → k < w.heap.size → X' k) : St w0 w X' ga gb p s A1 A2 L M a b :=
  ⟨h.sa.more hk, h.sb.more hk, h.r1.mono hk, h.r2.mono hk, h.box, h.bel⟩
theorem St.set {m j : Nat} {u : Value} (h : St w0 w X ga gb p s A1 A2 L M a b) (hm : ∀ k, X k → k ≠ m) (h1 : ga ≠ m) (h2 : gb ≠ m) (h3 : p ≠ m) (h4 : w0.heap.size ≤ m) : St w0 (w.setCell ⟨m, j, none⟩ u) X ga gb p s A1 A2 L M a b :=
  have q : ∀ k, k ≠ m → (w.setCell ⟨m, j, none⟩ u).heap[k]? = w.heap[k]? := fun k hk => Below.heap_setCell _ _ _ k hk
  ⟨h.sa.move (q _ h1) fun k hk _ => q k (hm k hk), h.sb.move (q _ h2) fun k hk _ => q k (hm k hk), h.r1.move fun k hk _ => q k (hm k hk), h.r2.move fun k hk _ => q k (hm k hk), h.box.other h3 u, below_set h.bel h4 u⟩
theorem St.doA (h : St w0 w X ga gb p s A1 A2 L M a b) (hX : ∀ k, X k → k ≠ ga) (h1 : gb ≠ ga) (h2 : p ≠ ga) (h3 : w0.heap.size ≤ ga) (hg : w.grownBy w' (some ga)) (hs : SrvIs w' ga (fun k => X k ∨ w.heap.size ≤ k) a') (hk : ∀ k, w.heap.size ≤ k → X k) : St w0 w' X ga gb p s A1 A2 L M a' b := by
  have q : ∀ k, k < w.heap.size → k ≠ ga → w'.heap[k]? = w.heap[k]? := fun k hl hk => hg.block k hl fun e => hk (by injection e)
  exact ⟨hs.more fun k h _ => h.elim id (hk k), h.sb.move (q _ h.sb.lt h1) fun k hk hl => q k hl (hX k hk), h.r1.move fun k hk hl => q k hl (hX k hk), h.r2.move fun k hk hl => q k hl (hX k hk), h.box.movedBy (q p h.box.lt h2),
    h.bel.grown hg h.bel.size fun k hk => by injection hk with hk; omega⟩
theorem St.doB (h : St w0 w X ga gb p s A1 A2 L M a b) (hX : ∀ k, X k → k ≠ gb) (h1 : ga ≠ gb) (h2 : p ≠ gb) (h3 : w0.heap.size ≤ gb) (hg : w.grownBy w' (some gb)) (hs : SrvIs w' gb (fun k => X k ∨ w.heap.size ≤ k) b') (hk : ∀ k, w.heap.size ≤ k → X k) : St w0 w' X ga gb p s A1 A2 L M a b' := by
  have q : ∀ k, k < w.heap.size → k ≠ gb → w'.heap[k]? = w.heap[k]? := fun k hl hk => hg.block k hl fun e => hk (by injection e)
  exact ⟨h.sa.move (q _ h.sa.lt h1) fun k hk hl => q k hl (hX k hk), hs.more fun k h _ => h.elim id (hk k), h.r1.move fun k hk hl => q k hl (hX k hk), h.r2.move fun k hk hl => q k hl (hX k hk), h.box.movedBy (q p h.box.lt h2),
    h.bel.grown hg h.bel.size fun k hk => by injection hk with hk; omega⟩
theorem OpIs.below (h : OpIs w X n o B1 e1 B2 e2 B3 e3) (hb : Below w.heap.size w w') : OpIs w' X n o B1 e1 B2 e2 B3 e3 :=
  ⟨h.bk.below hb, h.r.below hb, h.f.below hb, h.g.below hb, h.lf, h.lg⟩
theorem OpIs.mono (h : OpIs w X n o B1 e1 B2 e2 B3 e3) (hk : ∀ k, X k → k < w.heap.size → X' k) : OpIs w X' n o B1 e1 B2 e2 B3 e3 :=
  ⟨h.bk, h.r.mono hk, h.f.mono hk, h.g.mono hk, h.lf, h.lg⟩
theorem OpIs.move (h : OpIs w X n o B1 e1 B2 e2 B3 e3) (hn : w'.heap[n]? = w.heap[n]?) (hk : ∀ k, X k → k < w.heap.size → w'.heap[k]? = w.heap[k]?) : OpIs w' X n o B1 e1 B2 e2 B3 e3 :=
  ⟨h.bk.movedBy hn, h.r.move hk, h.f.move hk, h.g.move hk, h.lf, h.lg⟩
theorem OpIs.set {m j : Nat} {u : Value} (h : OpIs w X n o B1 e1 B2 e2 B3 e3) (hm : ∀ k, X k → k ≠ m) (hn : n ≠ m) : OpIs (w.setCell ⟨m, j, none⟩ u) X n o B1 e1 B2 e2 B3 e3 :=
  h.move (Below.heap_setCell _ _ _ n hn) fun k hk _ => Below.heap_setCell _ _ _ k (hm k hk)
theorem OpIs.grown {g : Nat} (h : OpIs w X n o B1 e1 B2 e2 B3 e3) (hX : ∀ k, X k → k ≠ g) (hn : n ≠ g) (hg : w.grownBy w' (some g)) : OpIs w' X n o B1 e1 B2 e2 B3 e3 :=
  h.move (hg.block n h.bk.lt fun e => hn (by injection e)) fun k hk hl => hg.block k hl fun e => hX k hk (by injection e)
theorem ToldV.below (h : ToldV w X v t) (hb : Below w.heap.size w w') : ToldV w' X v t := by
  obtain ⟨v1, v2, e, h1, h2⟩ := h
  exact ⟨v1, v2, e, h1.below hb, h2.below hb⟩
theorem ToldV.mono (h : ToldV w X v t) (hk : ∀ k, X k → k < w.heap.size → X' k) : ToldV w X' v t := by
  obtain ⟨v1, v2, e, h1, h2⟩ := h
  exact ⟨v1, v2, e, h1.mono hk, h2.mono hk⟩
theorem ToldV.set {m j : Nat} {u : Value} (h : ToldV w X v t) (hm : ∀ k, X k → k ≠ m) : ToldV (w.setCell ⟨m, j, none⟩ u) X v t := by
  obtain ⟨v1, v2, e, h1, h2⟩ := h
  exact ⟨v1, v2, e, h1.move fun k hk _ => Below.heap_setCell _ _ _ k (hm k hk), h2.move fun k hk _ => Below.heap_setCell _ _ _ k (hm k hk)⟩
theorem ToldV.grown {g : Nat} (h : ToldV w X v t) (hX : ∀ k, X k → k ≠ g) (hg : w.grownBy w' (some g)) : ToldV w' X v t := by
  obtain ⟨v1, v2, e, h1, h2⟩ := h
  exact ⟨v1, v2, e, h1.move fun k hk hl => hg.block k hl fun e => hX k hk (by injection e), h2.move fun k hk hl => hg.block k hl fun e => hX k hk (by injection e)⟩
/-- Do, of what stands in a variable. -/
theorem doOf (g : Nat) (F : Nat → Prop) (s : Srv) (hk : OpOk o) (h : SrvIs w g F s) (hF : ∀ k, F k → k ≠ g) (ho : OpIs w X n o B1 e1 B2 e2 B3 e3) :
    Calls Try.prog 33 #[.pointer (some ⟨g, 0, none⟩), opVal o B1 e1 B2 e2 B3 e3] w fun e w' => ∃ v, e = .returned v ∧ ToldV w' (fun k => w.heap.size ≤ k) v (doS s o).2 ∧ SrvIs w' g (fun k => F k ∨ w.heap.size ≤ k) (doS s o).1 ∧ w.grownBy w' (some g) := by
  refine (doAll g F s o hk.kind B1 e1 B2 e2 B3 e3 X X X w h hF ho.r ho.f ho.lf ho.g ho.lg).mono ?_
  rintro e w' ⟨v1, v2, rfl, h1, h2, h3, h4⟩
  exact ⟨_, rfl, ⟨v1, v2, rfl, h1, h2⟩, h3, h4⟩
/-! ### what is hidden -/
theorem and7 (n : Int) : bits .and .i64 n 7 = n % 8 := by
  have h7 : (BitVec.ofInt 64 7).toNat = 2 ^ 3 - 1 := by decide
  have key : (BitVec.ofInt 64 n &&& BitVec.ofInt 64 7).toNat = (n % ((2 ^ 64 : Nat) : Int)).toNat % 2 ^ 3 := by
    rw [BitVec.toNat_and, BitVec.toNat_ofInt, h7, Nat.and_two_pow_sub_one_eq_mod]
  show IntKind.i64.wrap ((BitVec.ofInt 64 n &&& BitVec.ofInt 64 7).toNat : Nat) = n % 8
  rw [key, IntKind.wrap_i64]
  omega
set_option maxHeartbeats 1600000 in
set_option maxRecDepth 100000 in
theorem topHid (hk : OpOk o) (hs : 0 ≤ s ∧ s < 8) (hp : Bk w p [.int .i64 s]) :
    Calls Try.prog 31 #[opVal o B1 e1 B2 e2 B3 e3, .pointer (some ⟨p, 0, none⟩)] w fun e w' => e = .returned (.bool (hides s o)) ∧ Below w.heap.size w w' := by
  have hp1 : ∀ x, (w.alloc (.cells x 62)).cell? ⟨p, 0, none⟩ = some (.int .i64 s) := fun x => (hp.alloc _).cell 0
  have HB : ∀ x, Aside (Below w.heap.size w (w.alloc (.cells x 62))) := fun x => ⟨(Below.refl _ _).alloc (Nat.le_refl _) _⟩
  have hpart := part_andNot hk.cats.1 (show o.r.cats ≤ 255 by have := hk.cats.2; omega) hs.1 (show s ≤ 255 by have := hs.2; omega)
  have HP := Aside.mk hpart
  clear hp hpart
  unfold opVal
  by_cases h2 : o.kind = 2
  · have g1 : (o.kind == 2) = true := by simp [h2]
    have e : hides s o = (bits .andNot .i64 o.r.cats s != 0) := by rw [hides, g1, Bool.true_or, Bool.true_and, ← HP.out]; rfl
    rw [e]
    have p1 := hp1 (opC o B1 e1 B2 e2 B3 e3).toArray
    unfold opC at p1
    have HB1 := HB (opC o B1 e1 B2 e2 B3 e3).toArray
    unfold opC at HB1
    clear e h2 hp1 HB
    go_enter Try.func31, Try.ntmps31
    go_wp2_with fail
    go_ret
    exact ⟨rfl, HB1.out⟩
  · have g1 : (o.kind == 2) = false := by simp [h2]
    by_cases h3 : o.kind = 3
    · have g2 : (o.kind == 3) = true := by simp [h3]
      have e : hides s o = (bits .andNot .i64 o.r.cats s != 0) := by rw [hides, g2, Bool.or_true, Bool.true_and, ← HP.out]; rfl
      rw [e]
      have p1 := hp1 (opC o B1 e1 B2 e2 B3 e3).toArray
      unfold opC at p1
      have HB1 := HB (opC o B1 e1 B2 e2 B3 e3).toArray
      unfold opC at HB1
      clear e h2 h3 hp1 HB
      go_enter Try.func31, Try.ntmps31
      go_wp2_with fail
      go_ret
      exact ⟨rfl, HB1.out⟩
    · have g2 : (o.kind == 3) = false := by simp [h3]
      have e : hides s o = false := by rw [hides, g1, g2]; rfl
      rw [e]
      have HB1 := HB (opC o B1 e1 B2 e2 B3 e3).toArray
      unfold opC at HB1
      clear e h2 h3 hp1 HB
      go_enter Try.func31, Try.ntmps31
      go_wp2_with fail
      go_ret
      exact ⟨rfl, HB1.out⟩
end Go.Proofs.WK
