/-
  log.parse: a line's words as an operation (P47).
-/
import Derived.Test.YtljjiicjnoljbaaGreatDoorParP
import Derived.Test.YtljjiicjnoljbaaGreatDoorRecRd
import Derived.Test.YtljjiicjnoljbaaGreatDoorSame
namespace Go.Proofs.WK
open Go.RowKit Rp
theorem Bk.twelve {w : World} {n : Nat} {a0 a1 a2 a3 a4 a5 a6 a7 a8 a9 a10 a11 : Value} (h : Bk w n [a0, a1, a2, a3, a4, a5, a6, a7, a8, a9, a10, a11]) : n < w.heap.size ∧ w.cell? ⟨n, 0, none⟩ = some a0 ∧ w.cell? ⟨n, 1, none⟩ = some a1 ∧ w.cell? ⟨n, 2, none⟩ = some a2 ∧ w.cell? ⟨n, 3, none⟩ = some a3 ∧ w.cell? ⟨n, 4, none⟩ = some a4 ∧ w.cell? ⟨n, 5, none⟩ = some a5 ∧ w.cell? ⟨n, 6, none⟩ = some a6 ∧ w.cell? ⟨n, 7, none⟩ = some a7 ∧ w.cell? ⟨n, 8, none⟩ = some a8 ∧ w.cell? ⟨n, 9, none⟩ = some a9 ∧ w.cell? ⟨n, 10, none⟩ = some a10 ∧ w.cell? ⟨n, 11, none⟩ = some a11 ∧ ∀ x, w.frozen? ⟨n, x, none⟩ = false :=
  ⟨h.lt, h.cell 0, h.cell 1, h.cell 2, h.cell 3, h.cell 4, h.cell 5, h.cell 6, h.cell 7, h.cell 8, h.cell 9, h.cell 10, h.cell 11, h.frozen⟩
theorem Bk.chg {w w' : World} {n : Nat} {cs : List Value} {S : Nat → Prop} (h : Bk w n cs) (hg : Chg S w w') (hn : ¬ S n) : Bk w' n cs := by
  obtain ⟨t, h1⟩ := h
  exact ⟨t, (hg.block n (Array.getElem?_eq_some_iff.1 h1).1 hn).trans h1⟩
/-- An operation's cells, its lists as they lie. -/
abbrev opL (o : OpV) (v1 v2 v3 : Value) : List Value := [.int .i64 o.kind, .int .i64 o.who.role, .int .i64 o.who.why, .int .i64 o.who.time, v1, .string o.r.id, .int .i64 o.r.cats, v2, v3, .string o.id, .string o.f.key, .string o.f.val]
abbrev opZ : List Value := [.int .i64 0, .int .i64 0, .int .i64 0, .int .i64 0, .slice none 0 0, .string ⟨#[]⟩, .int .i64 0, .slice none 0 0, .slice none 0 0, .string ⟨#[]⟩, .string ⟨#[]⟩, .string ⟨#[]⟩]
/-- While a line's words are read: the words (at p), the operation (behind it), the result's place. -/
structure PaS (w W : World) (p : Nat) (l : List ByteArray) (bad : Bool) (cs : List Value) : Prop where
  wd : WdS W p l bad
  bo : Bk W (p + 1) cs
  br : Bk W w.heap.size opZ
  env : EnvC w
  bel : Below w.heap.size w W
  lo : w.heap.size < p
  sz : ∀ x ∈ l, x.size < 4294967281
theorem PaS.chg {w W W' : World} {p : Nat} {l l' : List ByteArray} {bad bad' : Bool} {cs : List Value} (h : PaS w W p l bad cs) (hw : WdS W' p l' bad') (hc : Chg (fun k => k = p) W W') (hl : ∀ x ∈ l', x ∈ l) : PaS w W' p l' bad' cs :=
  ⟨hw, h.bo.chg hc (by omega), h.br.chg hc (by have := h.lo; omega), h.env, chg_env h.bel (Nat.le_of_lt h.lo) hc, h.lo, fun x hx => h.sz x (hl x hx)⟩
theorem PaS.below {w W W' : World} {p : Nat} {l : List ByteArray} {bad : Bool} {cs : List Value} (h : PaS w W p l bad cs) (hb : Below W.heap.size W W') : PaS w W' p l bad cs :=
  ⟨h.wd.below hb, h.bo.below hb, h.br.below hb, h.env, below_step h.bel hb, h.lo, h.sz⟩
theorem PaS.set {w W : World} {p : Nat} {l : List ByteArray} {bad : Bool} {cs : List Value} (h : PaS w W p l bad cs) (o : Nat) (u : Value) : PaS w (W.setCell ⟨p + 1, o, none⟩ u) p l bad (cs.set o u) :=
  ⟨h.wd.other (by omega) u, h.bo.set o u, h.br.other (by have := h.lo; omega) u, h.env, below_set h.bel (by show w.heap.size ≤ p + 1; have := h.lo; omega) u, h.lo, h.sz⟩
theorem PaS.bad {w W : World} {p : Nat} {l : List ByteArray} {bad : Bool} {cs : List Value} (h : PaS w W p l bad cs) (b : Bool) : PaS w (W.setCell ⟨p, 1, none⟩ (.bool b)) p l b cs :=
  h.chg (h.wd.bad b) (chg_set _ _ _ _ _ rfl) fun _ hx => hx
theorem PaS.envW {w W : World} {p : Nat} {l : List ByteArray} {bad : Bool} {cs : List Value} (h : PaS w W p l bad cs) : EnvC W := h.env.below h.bel
theorem PaS.next_sz {w W : World} {p : Nat} {l : List ByteArray} {bad : Bool} {cs : List Value} (h : PaS w W p l bad cs) : (nextS l).size < 4294967281 := by
  cases l with
  | nil => show (0 : Nat) < _; decide
  | cons a l => exact h.sz a (List.mem_cons_self ..)
theorem paNext {w W : World} {p : Nat} {l : List ByteArray} {bad : Bool} {cs : List Value} (h : PaS w W p l bad cs) :
    Calls Tryz.prog 182 #[.pointer (some ⟨p, 0, none⟩)] W fun e W' => e = .returned (.string (nextS l)) ∧ PaS w W' p l.tail (bad || l.isEmpty) cs :=
  (wordsNext p l bad W h.wd).mono fun _ _ ⟨h1, h2, h3⟩ => ⟨h1, h.chg h2 h3 fun _ hx => List.mem_of_mem_tail hx⟩
theorem paNum {w W : World} {p : Nat} {l : List ByteArray} {bad : Bool} {cs : List Value} (h : PaS w W p l bad cs) :
    Calls Tryz.prog 183 #[.pointer (some ⟨p, 0, none⟩)] W fun e W' => ∃ v : Int, e = .returned (.int .i64 v) ∧ NumIs (nextS l) v ∧ PaS w W' p l.tail (bad || (numV (nextS l)).isNone) cs :=
  (wordsNum p l bad W w h.wd h.sz h.env h.bel (Nat.le_of_lt h.lo)).mono fun _ _ ⟨v, h1, h2, h3, h4⟩ => ⟨v, h1, h2, h.chg h3 h4 fun _ hx => List.mem_of_mem_tail hx⟩
/-- What stands at the switch's end. -/
structure PaE (w W : World) (p : Nat) (o : OpV) (v1 v2 v3 : Value) (l : List ByteArray) (b : Bool) : Prop where
  st : PaS w W p l b (opL o v1 v2 v3)
  r1 : rulR.Sl W (fun k => p + 1 < k) v1 o.rules
  r2 : fldR.Sl W (fun k => p + 1 < k) v2 o.r.fields
  r3 : str.Sl W (fun k => p + 1 < k) v3 o.r.refs
def SaysO (ws : List ByteArray) (o : OpV) (l : List ByteArray) (b : Bool) : Prop := (saidX ws).isSome = (!b && l.isEmpty) ∧ ∀ x, saidX ws = some x → o = x
theorem set4x {w : World} {m k o1 o2 o3 o4 : Nat} {a b c d : Value} (h : k ≠ m) : ((((w.setCell ⟨m, o1, none⟩ a).setCell ⟨m, o2, none⟩ b).setCell ⟨m, o3, none⟩ c).setCell ⟨m, o4, none⟩ d).heap[k]? = w.heap[k]? := by
  rw [Below.heap_setCell _ _ _ k h, Below.heap_setCell _ _ _ k h, Below.heap_setCell _ _ _ k h, Below.heap_setCell _ _ _ k h]
theorem below_twelve {w w1 : World} {k : Nat} (h : Below w.heap.size w w1) (hk : w.heap.size ≤ k) (a0 a1 a2 a3 a4 a5 a6 a7 a8 a9 a10 a11 : Value) : Below w.heap.size w ((((((((((((w1.setCell ⟨k, 0, none⟩ a0).setCell ⟨k, 1, none⟩ a1).setCell ⟨k, 2, none⟩ a2).setCell ⟨k, 3, none⟩ a3).setCell ⟨k, 4, none⟩ a4).setCell ⟨k, 5, none⟩ a5).setCell ⟨k, 6, none⟩ a6).setCell ⟨k, 7, none⟩ a7).setCell ⟨k, 8, none⟩ a8).setCell ⟨k, 9, none⟩ a9).setCell ⟨k, 10, none⟩ a10).setCell ⟨k, 11, none⟩ a11) :=
  below_set (below_set (below_set (below_set (below_set (below_set (below_set (below_set (below_set (below_set (below_set (below_set (h) hk _) hk _) hk _) hk _) hk _) hk _) hk _) hk _) hk _) hk _) hk _) hk _
theorem set_twelve {w1 : World} {k j : Nat} (h : j ≠ k) {a0 a1 a2 a3 a4 a5 a6 a7 a8 a9 a10 a11 : Value} : ((((((((((((w1.setCell ⟨k, 0, none⟩ a0).setCell ⟨k, 1, none⟩ a1).setCell ⟨k, 2, none⟩ a2).setCell ⟨k, 3, none⟩ a3).setCell ⟨k, 4, none⟩ a4).setCell ⟨k, 5, none⟩ a5).setCell ⟨k, 6, none⟩ a6).setCell ⟨k, 7, none⟩ a7).setCell ⟨k, 8, none⟩ a8).setCell ⟨k, 9, none⟩ a9).setCell ⟨k, 10, none⟩ a10).setCell ⟨k, 11, none⟩ a11).heap[j]? = w1.heap[j]? := by
  rw [Below.heap_setCell _ _ _ j h, Below.heap_setCell _ _ _ j h, Below.heap_setCell _ _ _ j h, Below.heap_setCell _ _ _ j h, Below.heap_setCell _ _ _ j h, Below.heap_setCell _ _ _ j h, Below.heap_setCell _ _ _ j h, Below.heap_setCell _ _ _ j h, Below.heap_setCell _ _ _ j h, Below.heap_setCell _ _ _ j h, Below.heap_setCell _ _ _ j h, Below.heap_setCell _ _ _ j h]
theorem twelve_keep (w w1 : World) (k : Nat) (a0 a1 a2 a3 a4 a5 a6 a7 a8 a9 a10 a11 : Value) : (∀ j, j ≠ k → ((((((((((((w1.setCell ⟨k, 0, none⟩ a0).setCell ⟨k, 1, none⟩ a1).setCell ⟨k, 2, none⟩ a2).setCell ⟨k, 3, none⟩ a3).setCell ⟨k, 4, none⟩ a4).setCell ⟨k, 5, none⟩ a5).setCell ⟨k, 6, none⟩ a6).setCell ⟨k, 7, none⟩ a7).setCell ⟨k, 8, none⟩ a8).setCell ⟨k, 9, none⟩ a9).setCell ⟨k, 10, none⟩ a10).setCell ⟨k, 11, none⟩ a11).drew.heap[j]? = w1.heap[j]?) ∧ (Below w.heap.size w w1 → w.heap.size ≤ k → Below w.heap.size w ((((((((((((w1.setCell ⟨k, 0, none⟩ a0).setCell ⟨k, 1, none⟩ a1).setCell ⟨k, 2, none⟩ a2).setCell ⟨k, 3, none⟩ a3).setCell ⟨k, 4, none⟩ a4).setCell ⟨k, 5, none⟩ a5).setCell ⟨k, 6, none⟩ a6).setCell ⟨k, 7, none⟩ a7).setCell ⟨k, 8, none⟩ a8).setCell ⟨k, 9, none⟩ a9).setCell ⟨k, 10, none⟩ a10).setCell ⟨k, 11, none⟩ a11).drew) := by
  refine ⟨fun j h => ?_, fun h hk => Below.drew (below_twelve h hk _ _ _ _ _ _ _ _ _ _ _ _)⟩
  rw [show ∀ X : World, X.drew.heap = X.heap from fun _ => rfl]
  exact set_twelve h
/-- While rules are read. -/
structure PaL (w W : World) (p base : Nat) (v : Value) (rs : List Rul) (l : List ByteArray) (b : Bool) : Prop where
  st : PaS w W p l b [.int .i64 1, .int .i64 0, .int .i64 0, .int .i64 0, v, .string ⟨#[]⟩, .int .i64 0, .slice none 0 0, .slice none 0 0, .string ⟨#[]⟩, .string ⟨#[]⟩, .string ⟨#[]⟩]
  own : rulR.Own 89 W base (fun _ => False) v rs
  le : base ≤ W.heap.size
  lt : p + 1 < base
theorem PaL.below {w W W' : World} {p base : Nat} {v : Value} {rs : List Rul} {l : List ByteArray} {b : Bool} (h : PaL w W p base v rs l b) (hb : Below W.heap.size W W') : PaL w W' p base v rs l b :=
  ⟨h.st.below hb, h.own.below hb, Nat.le_trans h.le hb.size, h.lt⟩
theorem PaL.chg {w W W' : World} {p base : Nat} {v : Value} {rs : List Rul} {l l' : List ByteArray} {b b' : Bool} (h : PaL w W p base v rs l b) (hw : WdS W' p l' b') (hc : Chg (fun k => k = p) W W') (hl : ∀ x ∈ l', x ∈ l) : PaL w W' p base v rs l' b' :=
  ⟨h.st.chg hw hc hl, h.own.move (fun k hk => hc.block k (h.own.lt k hk).2 (by have := (h.own.lt k hk).1; have := h.lt; show ¬ k = p; omega)) fun k hk => hk.elim, Nat.le_trans h.le hc.size, h.lt⟩
theorem palNext {w W : World} {p base : Nat} {v : Value} {rs : List Rul} {l : List ByteArray} {b : Bool} (h : PaL w W p base v rs l b) :
    Calls Tryz.prog 182 #[.pointer (some ⟨p, 0, none⟩)] W fun e W' => e = .returned (.string (nextS l)) ∧ PaL w W' p base v rs l.tail (b || l.isEmpty) ∧ Chg (fun k => k = p) W W' :=
  (wordsNext p l b W h.st.wd).mono fun _ _ ⟨h1, h2, h3⟩ => ⟨h1, h.chg h2 h3 fun _ hx => List.mem_of_mem_tail hx, h3⟩
theorem palNum {w W : World} {p base : Nat} {v : Value} {rs : List Rul} {l : List ByteArray} {b : Bool} (h : PaL w W p base v rs l b) :
    Calls Tryz.prog 183 #[.pointer (some ⟨p, 0, none⟩)] W fun e W' => ∃ a : Int, e = .returned (.int .i64 a) ∧ NumIs (nextS l) a ∧ PaL w W' p base v rs l.tail (b || (numV (nextS l)).isNone) :=
  (wordsNum p l b W w h.st.wd h.st.sz h.st.env h.st.bel (Nat.le_of_lt h.st.lo)).mono fun _ _ ⟨a, h1, h2, h3, h4⟩ => ⟨a, h1, h2, h.chg h3 h4 fun _ hx => List.mem_of_mem_tail hx⟩
theorem PaL.grown {w W W' : World} {p base : Nat} {v : Value} {rs : List Rul} {l : List ByteArray} {b : Bool} (h : PaL w W p base v rs l b) (hg : W.grownBy W' v.ownBlock) :
    PaS w W' p l b [.int .i64 1, .int .i64 0, .int .i64 0, .int .i64 0, v, .string ⟨#[]⟩, .int .i64 0, .slice none 0 0, .slice none 0 0, .string ⟨#[]⟩, .string ⟨#[]⟩, .string ⟨#[]⟩] := by
  have hne : ∀ k, k ≤ p + 1 → some k ≠ v.ownBlock := fun k hk e => by have := (h.own.lt k e.symm).1; have := h.lt; omega
  obtain ⟨A, c, h1, h2, h3⟩ := h.st.wd
  have hlo := h.st.lo
  exact ⟨⟨A, c, h1.grown hg (hne p (by omega)), h2, h3.move fun k hk hl => hg.block k hl (hne k (by omega))⟩, h.st.bo.grown hg (hne _ (by omega)), h.st.br.grown hg (hne _ (by omega)), h.st.env, h.st.bel.grown hg h.st.bel.size fun k hk => by have := (h.own.lt k hk).1; have := h.lt; omega, hlo, h.st.sz⟩
/-- How many words are left. -/
def lenAt (p : Nat) (W : World) : Nat := match W.cell? ⟨p, 0, none⟩ with
  | some (.slice _ n _) => n
  | _ => 0
theorem WdS.lenAt {W : World} {p : Nat} {l : List ByteArray} {b : Bool} (h : WdS W p l b) : Go.Proofs.WK.lenAt p W = l.length := by
  obtain ⟨A, c, hb, _⟩ := h
  unfold Go.Proofs.WK.lenAt
  rw [show W.cell? ⟨p, 0, none⟩ = some (.slice A l.length c) from hb.cell 0]
theorem tail6 {l : List ByteArray} (h : l ≠ []) : l.tail.tail.tail.tail.tail.tail.length + 1 ≤ l.length := by
  cases l with
  | nil => exact absurd rfl h
  | cons a l => simp; omega
theorem yes_lit : (⟨#[121, 101, 115]⟩ : ByteArray).toList = [121, 101, 115] := by simp
theorem no_lit : (⟨#[110, 111]⟩ : ByteArray).toList = [110, 111] := by simp
theorem w_yes (h : ByteArray) : (h.toList == [121, 101, 115]) = decide (h = ⟨#[121, 101, 115]⟩) := by
  have h1 := toList_beq h ⟨#[121, 101, 115]⟩
  rwa [yes_lit] at h1
theorem w_no (h : ByteArray) : (h.toList == [110, 111]) = decide (h = ⟨#[110, 111]⟩) := by
  have h1 := toList_beq h ⟨#[110, 111]⟩
  rwa [no_lit] at h1
theorem infoRl : (Tryz.prog.info? 89).map (fun i => (i.zero, i.size, i.bytes)) = some (some (.agg #[.int .i64 0, .int .i64 0, .int .i64 0, .int .i64 0, .int .i64 0, .bool false]), 6, 48) := by kernel_rfl
theorem tl_put : sPut.toList = [112, 117, 116] := by simp [sPut]
theorem tl_cut : sCut.toList = [99, 117, 116] := by simp [sCut]
theorem tl_rules : sRules.toList = [114, 117, 108, 101, 115] := by simp [sRules]
theorem w_put {h : ByteArray} : (h.toList == [112, 117, 116]) = decide (h = sPut) := by rw [← tl_put]; exact toList_beq _ _
theorem w_cut {h : ByteArray} : (h.toList == [99, 117, 116]) = decide (h = sCut) := by rw [← tl_cut]; exact toList_beq _ _
theorem w_rules {h : ByteArray} : (h.toList == [114, 117, 108, 101, 115]) = decide (h = sRules) := by rw [← tl_rules]; exact toList_beq _ _
set_option maxRecDepth 100000 in
set_option maxHeartbeats 4000000 in
theorem logParse (s : ByteArray) (w : World) (hs : s.size < 4294967281) (he : EnvC w) :
    Calls Tryz.prog 111 #[.string s] w fun e w' => ∃ o v1 v2 v3, e = .returned (.tuple #[.agg (opL o v1 v2 v3).toArray, .bool (saidX (parts 32 s)).isSome]) ∧ (∀ x, saidX (parts 32 s) = some x → o = x) ∧ rulR.Sl w' (fun k => w.heap.size ≤ k) v1 o.rules ∧ fldR.Sl w' (fun k => w.heap.size ≤ k) v2 o.r.fields ∧ str.Sl w' (fun k => w.heap.size ≤ k) v3 o.r.refs ∧ Below w.heap.size w w' := by
  have hal : Below w.heap.size w (w.alloc (.cells opZ.toArray 40)) := (Below.refl _ _).alloc (Nat.le_refl _) _
  have HS := Aside.mk (splitC s 32 (w.alloc (.cells opZ.toArray 40)) hs (he.below hal).max)
  have HE := Aside.mk (he.below hal)
  have HR := Aside.mk (Bk.made w opZ 40)
  have HB := Aside.mk hal
  have HE0 := Aside.mk he
  have HSS := Aside.mk hs
  have HZ := Aside.mk (fun x hx => Nat.lt_of_le_of_lt (parts_size 32 _ s rfl x hx) hs)
  clear he hal hs
  go_enter Tryz.func111, Tryz.ntmps111
  go_wp2_with fail
  refine HS.out.mono ?_
  rintro e w1 ⟨rfl, hr, hb⟩
  have hsz : (w.alloc (.cells opZ.toArray 40)).heap.size = w.heap.size + 1 := by simp
  rw [hsz] at hr ⊢
  have HQ := Aside.mk (show PaS w ((w1.alloc (.cells #[.slice (some ⟨w.heap.size + 1, 0, none⟩) (parts 32 s).length (parts 32 s).length, .bool false] 246)).alloc (.cells opZ.toArray 40)) w1.heap.size (parts 32 s) false opZ from by
    have hb2 : Below w1.heap.size w1 ((w1.alloc (.cells #[.slice (some ⟨w.heap.size + 1, 0, none⟩) (parts 32 s).length (parts 32 s).length, .bool false] 246)).alloc (.cells opZ.toArray 40)) := ((Below.refl _ _).alloc (Nat.le_refl _) _).alloc (by simp) _
    have hz : (w1.alloc (.cells #[.slice (some ⟨w.heap.size + 1, 0, none⟩) (parts 32 s).length (parts 32 s).length, .bool false] 246)).heap.size = w1.heap.size + 1 := by simp
    refine ⟨⟨_, _, (Bk.made w1 [.slice (some ⟨w.heap.size + 1, 0, none⟩) (parts 32 s).length (parts 32 s).length, .bool false] 246).alloc _, Nat.le_refl _, (hr.mono fun k _ hk => hk).below hb2⟩, ?_, (HR.out.below hb).below hb2, HE0.out, below_step (below_step HB.out hb) hb2, ?_, HZ.out⟩
    · have h := Bk.made (w1.alloc (.cells #[.slice (some ⟨w.heap.size + 1, 0, none⟩) (parts 32 s).length (parts 32 s).length, .bool false] 246)) opZ 40
      rw [hz] at h
      exact h
    · have := hb.size
      omega)
  clear HS HE HR HB HZ hr hb hsz HE0
  go_upto_region 3 with fail
  generalize hW : (w1.alloc _).alloc _ = W at HQ ⊢
  generalize w1.heap.size = p at HQ ⊢
  clear hW
  obtain ⟨h0, t0, hps⟩ : ∃ a l, parts 32 s = a :: l := by
    have h := parts_len 32 s
    cases hp : parts 32 s with
    | nil => rw [hp] at h; simp at h
    | cons a l => exact ⟨a, l, rfl⟩
  rw [hps] at HQ
  have HPS := Aside.mk hps
  have HTZ : Aside (t0.length ≤ 4294967281) := ⟨by
    have h1 := parts_len 32 s
    have h2 := Lib.countB_le (one 32) (Nat.le_refl _) s.size s (Nat.le_refl _)
    have h3 := HSS.out
    rw [hps, List.length_cons] at h1
    omega⟩
  clear hps
  have HN := Aside.mk (paNext HQ.out)
  clear HQ
  rw [show nextS (h0 :: t0) = h0 from rfl, show (h0 :: t0).tail = t0 from rfl, show (false || (h0 :: t0).isEmpty) = false from rfl] at HN
  go_wp2_with fail
  refine HN.out.mono ?_
  rintro e w2 ⟨rfl, hq⟩
  have HQ := Aside.mk hq
  clear HN hq
  go_upto_block 0 with fail
  go_cut [] (fun wx => ∃ (o : OpV) (v1 v2 v3 : Value) (l : List ByteArray) (b : Bool), Aside (PaE w wx p o v1 v2 v3 l b) ∧ Aside (SaysO (h0 :: t0) o l b))
  case first =>
    by_cases e1 : h0 = sPut
    · have g1 : (h0.toList == [112, 117, 116]) = true := by rw [w_put, decide_eq_true e1]
      have HX := Aside.mk (fun (v1 v2 v3 : Int) h1 h2 h3 b hb => e1 ▸ said_put t0 v1 v2 v3 h1 h2 h3 b hb)
      clear e1
      go_wp2_with fail
      refine (paNum HQ.out).mono ?_
      rintro e w3 ⟨a1, rfl, hn, hq⟩
      have HN1 := Aside.mk hn
      have HQ1 := Aside.mk hq
      clear HQ hn hq
      go_wp2_with fail
      refine (paNum HQ1.out).mono ?_
      rintro e w4 ⟨a2, rfl, hn, hq⟩
      have HN2 := Aside.mk hn
      have HQ2 := Aside.mk hq
      clear HQ1 hn hq
      go_wp2_with fail
      refine (paNum HQ2.out).mono ?_
      rintro e w5 ⟨a3, rfl, hn, hq⟩
      have HN3 := Aside.mk hn
      have HQ3 := Aside.mk hq
      clear HQ2 hn hq
      have q3 := HQ3.out.bo.twelve
      obtain ⟨b3, hb3⟩ : ∃ b, b = (((false || (numV (nextS t0)).isNone) || (numV (nextS t0.tail)).isNone) || (numV (nextS t0.tail.tail)).isNone) := ⟨_, rfl⟩
      rw [← hb3] at HQ3
      have HB3 := Aside.mk hb3
      clear hb3
      go_upto_region 7 with fail
      generalize hw6 : (((w5.setCell _ _).setCell _ _).setCell _ _).setCell _ _ = w6
      have hq6 : PaS w w6 p t0.tail.tail.tail b3 [.int .i64 2, .int .i64 a1, .int .i64 a2, .int .i64 a3, .slice none 0 0, .string ⟨#[]⟩, .int .i64 0, .slice none 0 0, .slice none 0 0, .string ⟨#[]⟩, .string ⟨#[]⟩, .string ⟨#[]⟩] := by
        rw [← hw6]
        exact (((HQ3.out.set 0 _).set 1 _).set 2 _).set 3 _
      have HQ6 := Aside.mk hq6
      have HZ : Aside ((nextS t0.tail.tail.tail).size < 4294967281) := ⟨hq6.next_sz⟩
      clear hw6 hq6 q3 HQ3
      go_wp2_with fail
      refine (paNext HQ6.out).mono ?_
      rintro e w7 ⟨rfl, hq⟩
      have HQ7 := Aside.mk hq
      clear HQ6 hq
      have HRD := Aside.mk (recRead (nextS t0.tail.tail.tail) w7 HZ.out HQ7.out.envW.max HQ7.out.envW.pow HQ7.out.envW.err)
      generalize nextS t0.tail.tail.tail = d at HX HRD HZ ⊢
      go_wp2_with fail
      refine HRD.out.mono ?_
      rintro e w8 ⟨v1, v2, rfl, s1, s2, hb8⟩
      obtain ⟨X1, d1, rfl, hd1, r1⟩ := s1
      obtain ⟨X2, d2, rfl, hd2, r2⟩ := s2
      have hp7 := HQ7.out.bo.lt
      have hal : Below w8.heap.size w8 (w8.alloc (.cells #[.string (readR d).id, .int .i64 (readR d).cats, .slice X1 (readR d).fields.length d1, .slice X2 (readR d).refs.length d2] 36)) := (Below.refl _ _).alloc (Nat.le_refl _) _
      have HQ8 := Aside.mk ((HQ7.out.below hb8).below hal)
      have HR8 := Aside.mk (And.intro ((r1.mono (ok' := fun k => p + 1 < k) fun k hk _ => by omega).below hal) ((r2.mono (ok' := fun k => p + 1 < k) fun k hk _ => by omega).below hal))
      have HB8 := Aside.mk (Bk.made w8 [.string (readR d).id, .int .i64 (readR d).cats, .slice X1 (readR d).fields.length d1, .slice X2 (readR d).refs.length d2] 36)
      have HD8 := Aside.mk (And.intro hd1 (And.intro hd2 (show p + 1 < w8.heap.size from Nat.lt_of_lt_of_le hp7 hb8.size)))
      clear HRD HQ7 r1 r2 hb8 hal hp7 hd1 hd2
      go_upto_region 8 with fail
      generalize hq : w8.heap.size = q at HB8 HD8 ⊢
      generalize hw9 : w8.alloc _ = w9 at HQ8 HR8 HB8 ⊢
      clear hq hw9
      obtain ⟨b5, hb5⟩ : ∃ b, b = (b3 || t0.tail.tail.tail.isEmpty || decide (readE d ≠ 0)) := ⟨_, rfl⟩
      have HB5 := Aside.mk hb5
      clear hb5
      go_cut [] (fun wx => Aside (PaS w wx p t0.tail.tail.tail.tail b5 [.int .i64 2, .int .i64 a1, .int .i64 a2, .int .i64 a3, .slice none 0 0, .string ⟨#[]⟩, .int .i64 0, .slice none 0 0, .slice none 0 0, .string ⟨#[]⟩, .string ⟨#[]⟩, .string ⟨#[]⟩] ∧ fldR.Row wx (fun k => p + 1 < k) X1 (readR d).fields ∧ str.Row wx (fun k => p + 1 < k) X2 (readR d).refs ∧ Bk wx q [.string (readR d).id, .int .i64 (readR d).cats, .slice X1 (readR d).fields.length d1, .slice X2 (readR d).refs.length d2]))
      case first =>
        have HEND : Aside (∀ b, b = b5 → PaS w (w9.setCell ⟨p, 1, none⟩ (.bool b)) p t0.tail.tail.tail.tail b5 [.int .i64 2, .int .i64 a1, .int .i64 a2, .int .i64 a3, .slice none 0 0, .string ⟨#[]⟩, .int .i64 0, .slice none 0 0, .slice none 0 0, .string ⟨#[]⟩, .string ⟨#[]⟩, .string ⟨#[]⟩] ∧ fldR.Row (w9.setCell ⟨p, 1, none⟩ (.bool b)) (fun k => p + 1 < k) X1 (readR d).fields ∧ str.Row (w9.setCell ⟨p, 1, none⟩ (.bool b)) (fun k => p + 1 < k) X2 (readR d).refs ∧ Bk (w9.setCell ⟨p, 1, none⟩ (.bool b)) q [.string (readR d).id, .int .i64 (readR d).cats, .slice X1 (readR d).fields.length d1, .slice X2 (readR d).refs.length d2]) := ⟨fun b hb => by
          subst hb
          exact ⟨HQ8.out.bad _, HR8.out.1.move fun k hk _ => Below.heap_setCell _ _ _ k (by show k ≠ p; omega), HR8.out.2.move fun k hk _ => Below.heap_setCell _ _ _ k (by show k ≠ p; omega), HB8.out.other (by have := HD8.out; omega) _⟩⟩
        obtain ⟨A, c, hbk, _, _⟩ := HQ8.out.wd
        have q8 := hbk.two
        generalize hbb : (b3 || t0.tail.tail.tail.isEmpty) = b4 at q8
        rw [hbb] at HB5
        clear hbk hbb
        cases b4 with
        | true =>
          have HE := Aside.mk (show true = b5 by rw [HB5.out]; simp)
          go_wp2_with fail
          go_meet
          exact ⟨HEND.out true HE.out⟩
        | false =>
          by_cases hr : readE d = 0
          · have g2 : (readE d != 0) = false := by simp [hr]
            have HE := Aside.mk (show false = b5 by rw [HB5.out]; simp [hr])
            clear hr
            go_wp2_with fail
            go_meet
            exact ⟨HEND.out false HE.out⟩
          · have g2 : (readE d != 0) = true := by simp [hr]
            have HE := Aside.mk (show true = b5 by rw [HB5.out]; simp [hr])
            clear hr
            go_wp2_with fail
            go_meet
            exact ⟨HEND.out true HE.out⟩
      case rest =>
        obtain ⟨h1, h2, h3, h4⟩ := hcut.out
        have HC := Aside.mk (And.intro ((((h1.set 5 (.string (readR d).id)).set 6 (.int .i64 (readR d).cats)).set 7 (.slice X1 (readR d).fields.length d1)).set 8 (.slice X2 (readR d).refs.length d2)) (And.intro h2 h3))
        have q9 := h4.four
        have p9 := h1.bo.twelve
        clear h1 h2 h3 h4 hcut
        go_wp2_with fail
        go_meet
        refine ⟨{ opNo with kind := 2, who := ⟨a1, a2, a3⟩, r := readR d }, _, _, _, _, _, ⟨⟨HC.out.1, Sl.nil _ _ _, ⟨_, _, rfl, HD8.out.1, HC.out.2.1.move fun k hk _ => set4x (by omega)⟩, ⟨_, _, rfl, HD8.out.2.1, HC.out.2.2.move fun k hk _ => set4x (by omega)⟩⟩⟩, ⟨?_⟩⟩
        obtain ⟨h1, h2⟩ := HX.out a1 a2 a3 HN1.out HN2.out HN3.out b5 (by rw [HB5.out, HB3.out]; simp)
        exact ⟨h1, fun x hx => (h2 x hx).symm⟩
    · have g1 : (h0.toList == [112, 117, 116]) = false := by rw [w_put, decide_eq_false e1]
      by_cases e2 : h0 = sCut
      · have g2 : (h0.toList == [99, 117, 116]) = true := by rw [w_cut, decide_eq_true e2]
        have HX := Aside.mk (fun (v1 v2 v3 v5 : Int) h1 h2 h3 h5 b hb => e2 ▸ said_cut t0 v1 v2 v3 v5 h1 h2 h3 h5 b hb)
        clear e1 e2
        go_wp2_with fail
        refine (paNum HQ.out).mono ?_
        rintro e w3 ⟨a1, rfl, hn, hq⟩
        have HN1 := Aside.mk hn
        have HQ1 := Aside.mk hq
        clear HQ hn hq
        go_wp2_with fail
        refine (paNum HQ1.out).mono ?_
        rintro e w4 ⟨a2, rfl, hn, hq⟩
        have HN2 := Aside.mk hn
        have HQ2 := Aside.mk hq
        clear HQ1 hn hq
        go_wp2_with fail
        refine (paNum HQ2.out).mono ?_
        rintro e w5 ⟨a3, rfl, hn, hq⟩
        have HN3 := Aside.mk hn
        have HQ3 := Aside.mk hq
        clear HQ2 hn hq
        have q3 := HQ3.out.bo.twelve
        obtain ⟨b3, hb3⟩ : ∃ b, b = (((false || (numV (nextS t0)).isNone) || (numV (nextS t0.tail)).isNone) || (numV (nextS t0.tail.tail)).isNone) := ⟨_, rfl⟩
        rw [← hb3] at HQ3
        have HB3 := Aside.mk hb3
        clear hb3
        go_upto_region 12 with fail
        generalize hw6 : (((w5.setCell _ _).setCell _ _).setCell _ _).setCell _ _ = w6
        have hq6 : PaS w w6 p t0.tail.tail.tail b3 [.int .i64 3, .int .i64 a1, .int .i64 a2, .int .i64 a3, .slice none 0 0, .string ⟨#[]⟩, .int .i64 0, .slice none 0 0, .slice none 0 0, .string ⟨#[]⟩, .string ⟨#[]⟩, .string ⟨#[]⟩] := by
          rw [← hw6]
          exact (((HQ3.out.set 0 _).set 1 _).set 2 _).set 3 _
        have HQ6 := Aside.mk hq6
        clear hw6 hq6 q3 HQ3
        go_wp2_with fail
        refine (paNext HQ6.out).mono ?_
        rintro e w7 ⟨rfl, hq⟩
        have HQ7 := Aside.mk hq
        clear HQ6 hq
        have q7 := HQ7.out.bo.twelve
        go_upto_region 13 with fail
        generalize hw8 : w7.setCell _ _ = w8
        have hq8 : PaS w w8 p t0.tail.tail.tail.tail (b3 || t0.tail.tail.tail.isEmpty) [.int .i64 3, .int .i64 a1, .int .i64 a2, .int .i64 a3, .slice none 0 0, .string ⟨#[]⟩, .int .i64 0, .slice none 0 0, .slice none 0 0, .string (nextS t0.tail.tail.tail), .string ⟨#[]⟩, .string ⟨#[]⟩] := by
          rw [← hw8]
          exact HQ7.out.set 9 _
        have HQ8 := Aside.mk hq8
        clear hw8 hq8 q7 HQ7
        go_wp2_with fail
        refine (paNum HQ8.out).mono ?_
        rintro e w9 ⟨a5, rfl, hn, hq⟩
        have HN5 := Aside.mk hn
        have HQ9 := Aside.mk (hq.set 6 (.int .i64 a5))
        have q9 := hq.bo.twelve
        clear HQ8 hn hq
        go_wp2_with fail
        go_meet
        refine ⟨{ opNo with kind := 3, who := ⟨a1, a2, a3⟩, r := { noRec with cats := a5 }, id := nextS t0.tail.tail.tail }, _, _, _, _, _, ⟨⟨HQ9.out, Sl.nil _ _ _, Sl.nil _ _ _, Sl.nil _ _ _⟩⟩, ⟨?_⟩⟩
        obtain ⟨h1, h2⟩ := HX.out a1 a2 a3 a5 HN1.out HN2.out HN3.out HN5.out (b3 || t0.tail.tail.tail.isEmpty || (numV (nextS t0.tail.tail.tail.tail)).isNone) (by rw [HB3.out]; simp)
        exact ⟨h1, fun x hx => (h2 x hx).symm⟩
      · have g2 : (h0.toList == [99, 117, 116]) = false := by rw [w_cut, decide_eq_false e2]
        by_cases e3 : h0 = sRules
        · have g3 : (h0.toList == [114, 117, 108, 101, 115]) = true := by rw [w_rules, decide_eq_true e3]
          have HX := Aside.mk (fun (l : List ByteArray) (rs : List Rul) b (h : RulAt t0 rs l b) he => e3 ▸ said_rules h he)
          clear e1 e2 e3
          have q0 := HQ.out.bo.twelve
          have HL0 : Aside (PaL w (w2.setCell ⟨p + 1, 0, none⟩ (.int .i64 1)) p w2.heap.size (.slice none 0 0) [] t0 false) := ⟨⟨HQ.out.set 0 _, Own.nil _ _ _ _ _, by simp [World.setCell], HQ.out.bo.lt⟩⟩
          go_upto_region 16 with fail
          generalize w2.setCell _ _ = w3 at HL0 ⊢
          have HLT := Aside.mk HQ.out.bo.lt
          generalize w2.heap.size = base at HL0 HLT
          clear q0 HQ
          go_loopw [9] (fun _ wr => ∃ (v : Value) (rs : List Rul) (l : List ByteArray) (b : Bool), Aside (PaL w wr p base v rs l b ∧ rs.length + l.length ≤ t0.length) ∧ Aside (RulAt t0 rs l b)) (fun _ wr => lenAt p wr)
          case atStart => exact ⟨_, [], t0, false, ⟨HL0.out, by simp⟩, ⟨RulAt.start _⟩⟩
          case round =>
            clear HL0
            obtain ⟨v, rs, l, b, HL, HA⟩ := hrel
            obtain ⟨A, c, hbk, _, _⟩ := HL.out.1.st.wd
            have z0 := hbk.two
            obtain ⟨AR, cR, rfl, hcR, _⟩ := HL.out.1.own.sl
            have HMS := Aside.mk (HL.out.1.st.wd.lenAt)
            clear hbk
            have HEND : Aside (l = [] ∨ b = true → ∃ (o : OpV) (v1 v2 v3 : Value) (l : List ByteArray) (b : Bool), Aside (PaE w wr p o v1 v2 v3 l b) ∧ Aside (SaysO (h0 :: t0) o l b)) := ⟨fun he => by
              refine ⟨{ opNo with kind := 1, rules := rs }, _, _, _, l, b, ⟨⟨HL.out.1.st, ?_, Sl.nil _ _ _, Sl.nil _ _ _⟩⟩, ⟨?_⟩⟩
              · exact HL.out.1.own.sl.mono fun k hk _ => hk.elim False.elim fun h => Nat.lt_of_lt_of_le HL.out.1.lt (HL.out.1.own.lt k h).1
              · obtain ⟨h1, h2⟩ := HX.out l rs b HA.out he
                exact ⟨h1, fun x hx => (h2 x hx).symm⟩⟩
            by_cases hl : l = []
            · have HE := Aside.mk (HEND.out (.inl hl))
              subst hl
              clear HEND
              go_wp2_with fail
              go_meet
              exact HE.out
            · have hlen : 0 < l.length := List.length_pos_iff.2 hl
              have g0 : decide ((0 : Int) < (l.length : Int)) = true := decide_eq_true (by omega)
              cases b with
              | true =>
                have HE := Aside.mk (HEND.out (.inr rfl))
                clear HEND hl
                go_wp2_with fail
                go_meet
                exact HE.out
              | false =>
                have HST := Aside.mk (fun (v1 v2 v3 v4 v5 : Int) h1 h2 h3 h4 h5 b hb => ruls_step l hl v1 v2 v3 v4 v5 h1 h2 h3 h4 h5 b hb)
                have HT6 := Aside.mk (tail6 hl)
                have HLE := Aside.mk HL.out.2
                have HL0 := Aside.mk HL.out.1
                clear HEND hl HL
                go_wp2_with fail
                refine (palNum HL0.out).mono ?_
                rintro e u1 ⟨a1, rfl, hn, hq⟩
                have HN1 := Aside.mk hn
                have HL1 := Aside.mk hq
                clear HL0 hn hq
                go_wp2_with fail
                refine (palNum HL1.out).mono ?_
                rintro e u2 ⟨a2, rfl, hn, hq⟩
                have HN2 := Aside.mk hn
                have HL2 := Aside.mk hq
                clear HL1 hn hq
                go_wp2_with fail
                refine (palNum HL2.out).mono ?_
                rintro e u3 ⟨a3, rfl, hn, hq⟩
                have HN3 := Aside.mk hn
                have HL3 := Aside.mk hq
                clear HL2 hn hq
                go_wp2_with fail
                refine (palNum HL3.out).mono ?_
                rintro e u4 ⟨a4, rfl, hn, hq⟩
                have HN4 := Aside.mk hn
                have HL4 := Aside.mk hq
                clear HL3 hn hq
                go_wp2_with fail
                refine (palNum HL4.out).mono ?_
                rintro e u5 ⟨a5, rfl, hn, hq⟩
                have HN5 := Aside.mk hn
                have HL5 := Aside.mk hq
                clear HL4 hn hq
                obtain ⟨b5, hb5⟩ : ∃ b, b = (((((false || (numV (nextS l)).isNone) || (numV (nextS l.tail)).isNone) || (numV (nextS l.tail.tail)).isNone) || (numV (nextS l.tail.tail.tail)).isNone) || (numV (nextS l.tail.tail.tail.tail)).isNone) := ⟨_, rfl⟩
                rw [← hb5] at HL5
                have HB5 := Aside.mk hb5
                clear hb5 z0
                have hal : Below u5.heap.size u5 (u5.alloc (.cells #[.int .i64 a1, .int .i64 a2, .int .i64 a3, .int .i64 a4, .int .i64 a5, .bool false] 89)) := (Below.refl _ _).alloc (Nat.le_refl _) _
                have HL6 := Aside.mk (HL5.out.below hal)
                have HQ6 := Aside.mk (Bk.made u5 [.int .i64 a1, .int .i64 a2, .int .i64 a3, .int .i64 a4, .int .i64 a5, .bool false] 89)
                have HLQ := Aside.mk (show p + 1 < u5.heap.size ∧ base ≤ u5.heap.size from ⟨HL5.out.st.bo.lt, HL5.out.le⟩)
                have HOL : Aside (∀ k, (Value.slice AR rs.length cR).ownBlock = some k → k < u5.heap.size) := ⟨fun k hk => (HL5.out.own.lt k hk).2⟩
                clear hal HL5
                go_upto_region 18 with fail
                generalize hq : u5.heap.size = Q at HQ6 HLQ HOL ⊢
                generalize hu6 : u5.alloc _ = u6 at HL6 HQ6 ⊢
                clear hq hu6
                go_wp2_with fail
                refine (palNext HL6.out).mono ?_
                rintro e u7 ⟨rfl, hq, hc⟩
                have HL7 := Aside.mk hq
                have HQ7 := Aside.mk (HQ6.out.chg hc (by have := HLQ.out; show ¬ Q = p; omega))
                clear HL6 HQ6 hq hc
                obtain ⟨y, hy⟩ : ∃ y, y = decide (nextS l.tail.tail.tail.tail.tail = ⟨#[121, 101, 115]⟩) := ⟨_, rfl⟩
                obtain ⟨z, hz⟩ : ∃ z, z = decide (nextS l.tail.tail.tail.tail.tail = ⟨#[110, 111]⟩) := ⟨_, rfl⟩
                have HYZ := Aside.mk (show (yesX (nextS l.tail.tail.tail.tail.tail)).isNone = (!y && !z) by rw [yes_none, hy, hz])
                have HY := Aside.mk hy
                have gy : ((nextS l.tail.tail.tail.tail.tail).toList == [121, 101, 115]) = y := by rw [hy, w_yes]
                have gz : ((nextS l.tail.tail.tail.tail.tail).toList == [110, 111]) = z := by rw [hz, w_no]
                clear hy hz
                obtain ⟨s6, hs6⟩ : ∃ s, s = nextS l.tail.tail.tail.tail.tail := ⟨_, rfl⟩
                rw [← hs6] at gy gz ⊢
                have HS6 := Aside.mk hs6
                clear hs6
                have q7 := HQ7.out.six
                go_upto_region 20 with fail
                have HL8 : Aside (PaL w (u7.setCell ⟨Q, 5, none⟩ (.bool y)) p base (.slice AR rs.length cR) rs l.tail.tail.tail.tail.tail.tail (b5 || l.tail.tail.tail.tail.tail.isEmpty)) := ⟨by
                  have h := HL7.out
                  have h1 := HLQ.out
                  exact ⟨⟨h.st.wd.other (by omega) _, h.st.bo.other (by omega) _, h.st.br.other (by have := h.st.lo; omega) _, h.st.env, below_set h.st.bel (show w.heap.size ≤ Q by have := h.st.lo; omega) _, h.st.lo, h.st.sz⟩,
                    h.own.move (fun k hk => Below.heap_setCell _ _ _ k (by have := HOL.out k hk; show k ≠ Q; omega)) fun k hk => hk.elim, by simpa [World.setCell] using h.le, h.lt⟩⟩
                have HQ8 := Aside.mk (HQ7.out.set 5 (.bool y))
                generalize u7.setCell _ _ = u8 at HL8 HQ8 ⊢
                clear HL7 HQ7 q7
                obtain ⟨b6, hb6⟩ : ∃ b, b = (b5 || l.tail.tail.tail.tail.tail.isEmpty) := ⟨_, rfl⟩
                rw [← hb6] at HL8
                obtain ⟨b7, hb7⟩ : ∃ b, b = (b6 || (!y && !z)) := ⟨_, rfl⟩
                have HB7 := Aside.mk (And.intro hb7 hb6)
                clear hb6 hb7
                go_cut [] (fun wx => Aside (PaL w wx p base (.slice AR rs.length cR) rs l.tail.tail.tail.tail.tail.tail b7 ∧ Bk wx Q [.int .i64 a1, .int .i64 a2, .int .i64 a3, .int .i64 a4, .int .i64 a5, .bool y]))
                case first =>
                  have HE9 : Aside (∀ b, b = b7 → PaL w (u8.setCell ⟨p, 1, none⟩ (.bool b)) p base (.slice AR rs.length cR) rs l.tail.tail.tail.tail.tail.tail b7 ∧ Bk (u8.setCell ⟨p, 1, none⟩ (.bool b)) Q [.int .i64 a1, .int .i64 a2, .int .i64 a3, .int .i64 a4, .int .i64 a5, .bool y]) := ⟨fun b hb => by
                    subst hb
                    exact ⟨HL8.out.chg (HL8.out.st.wd.bad _) (chg_set _ _ _ _ _ rfl) fun _ hx => hx, HQ8.out.other (by have := HLQ.out; omega) _⟩⟩
                  obtain ⟨A2, c2, hbk2, _, _⟩ := HL8.out.st.wd
                  have q8 := hbk2.two
                  clear hbk2
                  cases b6 with
                  | true =>
                    have HE := Aside.mk (show true = b7 by rw [HB7.out.1]; simp)
                    go_wp2_with fail
                    go_meet
                    exact ⟨HE9.out true HE.out⟩
                  | false =>
                    cases y with
                    | true =>
                      have HE := Aside.mk (show false = b7 by rw [HB7.out.1]; simp)
                      go_wp2_with fail
                      go_meet
                      exact ⟨HE9.out false HE.out⟩
                    | false =>
                      have HE := Aside.mk (show (!z) = b7 by rw [HB7.out.1]; simp)
                      have gz2 : (s6.toList != [110, 111]) = !z := by rw [bne, gz]
                      go_wp2_with fail
                      go_meet
                      exact ⟨HE9.out (!z) HE.out⟩
                case rest =>
                  obtain ⟨hl9, hq9⟩ := hcut.out
                  have HL9 := Aside.mk hl9
                  have HLN : Aside ((rs.length + 1) * 48 ≤ 140737488355328) := ⟨by have := HLE.out; have := HTZ.out; omega⟩
                  have hone : ∀ x : Rul, (rs ++ [x]).length = rs.length + 1 := fun x => by simp
                  have HSTP := Aside.mk (HST.out a1 a2 a3 a4 a5 HN1.out HN2.out HN3.out HN4.out HN5.out b7 (by rw [HB7.out.1, HB7.out.2, HB5.out, HYZ.out]; simp))
                  have hRA : ∃ rs2, rs2 = rs ++ [(⟨a1, a2, a3, a4, a5, y⟩ : Rul)] := ⟨_, rfl⟩
                  have q9 := hq9.six
                  have p9 := hl9.st.bo.twelve
                  clear hl9 hq9 hcut
                  go_wp2_with (at_builtin
                               refine append_one (w0 := wc) rulR base rfl (.tmp 113) (.tmp 115) 32 89 _ 48 rfl Tryz.underlying32 infoRl rfl (by decide) (by decide) (.slice AR rs.length cR) rs ⟨a1, a2, a3, a4, a5, y⟩ [.int .i64 a1, .int .i64 a2, .int .i64 a3, .int .i64 a4, .int .i64 a5, .bool y] (fun _ => False) rfl rfl (rulK.2 rfl) HL9.out.own (Below.refl _ _) HL9.out.le HLN.out ?_
                               intro v1 u10 HO1 HB1 hg hat
                               obtain ⟨AX, cX, rfl, hcX, _⟩ := HO1.sl
                               rw [hone] at HO1 ⊢
                               have HP10 := Aside.mk (HL9.out.grown hg)
                               have q10 := HP10.out.bo.twelve
                               have HX10 := Aside.mk (And.intro HO1 (Nat.le_trans HL9.out.le hg.size))
                               clear HO1 HB1 hg hat)
                  have HL11 : Aside (PaL w (u10.setCell ⟨p + 1, 4, none⟩ (.slice AX (rs.length + 1) cX)) p base (.slice AX (rs.length + 1) cX) (rs ++ [⟨a1, a2, a3, a4, a5, y⟩]) l.tail.tail.tail.tail.tail.tail b7) := ⟨⟨HP10.out.set 4 _,
                    HX10.out.1.move (fun k hk => Below.heap_setCell _ _ _ k (by have := (HX10.out.1.lt k hk).1; have := HL9.out.lt; show k ≠ p + 1; omega)) fun k hk => hk.elim, by simpa [World.setCell] using HX10.out.2, HL9.out.lt⟩⟩
                  refine ⟨⟨_, _, _, b7, ⟨HL11.out, ?_⟩, ⟨?_⟩⟩, ?_⟩
                  · rw [hone]
                    have := HT6.out
                    have := HLE.out
                    omega
                  · cases hb : b7 with
                    | true => exact RulAt.ill HA.out (HSTP.out.1 hb)
                    | false =>
                      have h := HSTP.out.2 hb
                      rw [← HS6.out] at h
                      have hy : y = decide (s6 = ⟨#[121, 101, 115]⟩) := by rw [HY.out, HS6.out]
                      rw [← hy] at h
                      exact RulAt.good HA.out h
                  · rw [HL11.out.st.wd.lenAt, HMS.out]
                    have := HT6.out
                    omega
        · have g3 : (h0.toList == [114, 117, 108, 101, 115]) = false := by rw [w_rules, decide_eq_false e3]
          have HE := Aside.mk (said_else (t := t0) e3 e1 e2)
          have HQB := Aside.mk HQ.out.bel
          have HLO := Aside.mk HQ.out.lo
          have q0 := HQ.out.bo.twelve
          have p0 := HQ.out.br.twelve
          have hne : w.heap.size ≠ p + 1 := by have := HQ.out.lo; omega
          clear e1 e2 e3 HQ
          go_wp2_with fail
          refine bodyPost_ret (v := .tuple #[.agg opZ.toArray, .bool false]) ?_ rfl ?_
          · simp [results, Tryz.results111, go_sem, p0, hne]
          · rw [HPS.out, HE.out]
            exact ⟨opNo, _, _, _, rfl, fun x hx => (by cases hx), Sl.nil _ _ _, Sl.nil _ _ _, Sl.nil _ _ _, below_twelve HQB.out (Nat.le_refl _) _ _ _ _ _ _ _ _ _ _ _ _⟩
  case rest =>
    obtain ⟨o, v1, v2, v3, l, b, HP, HS⟩ := hcut
    obtain ⟨X1, d1, rfl, hd1, r1⟩ := HP.out.r1
    obtain ⟨X2, d2, rfl, hd2, r2⟩ := HP.out.r2
    obtain ⟨X3, d3, rfl, hd3, r3⟩ := HP.out.r3
    have HR := Aside.mk (And.intro r1 (And.intro r2 r3))
    have HD := Aside.mk (And.intro hd1 (And.intro hd2 hd3))
    clear hd1 hd2 hd3 r1 r2 r3
    have q0 := HP.out.st.bo.twelve
    have p0 := HP.out.st.br.twelve
    obtain ⟨A, c, hbk, _, _⟩ := HP.out.st.wd
    have z0 := hbk.two
    have hlo := HP.out.st.lo
    have n1 : w.heap.size ≠ p + 1 := by omega
    have n2 : w.heap.size ≠ p := by omega
    have n3 : p ≠ w.heap.size := by omega
    have n4 : p + 1 ≠ w.heap.size := by omega
    have HLO := Aside.mk hlo
    clear hbk hlo
    have mixed : Tryz.prog.follows Departure.mixedOrders = true := by kernel_rfl
    obtain ⟨hk2, hb2⟩ := twelve_keep w wc w.heap.size (.int .i64 o.kind) (.int .i64 o.who.role) (.int .i64 o.who.why) (.int .i64 o.who.time) (.slice X1 o.rules.length d1) (.string o.r.id) (.int .i64 o.r.cats) (.slice X2 o.r.fields.length d2) (.slice X3 o.r.refs.length d3) (.string o.id) (.string o.f.key) (.string o.f.val)
    generalize hW2 : World.drew _ = W2 at hk2 hb2
    have HM : Aside (rulR.Row W2 (fun k => w.heap.size ≤ k) X1 o.rules ∧ fldR.Row W2 (fun k => w.heap.size ≤ k) X2 o.r.fields ∧ str.Row W2 (fun k => w.heap.size ≤ k) X3 o.r.refs) :=
      ⟨(HR.out.1.move fun k hk _ => hk2 k (by have := HLO.out; omega)).mono fun k hk _ => by have := HLO.out; omega, (HR.out.2.1.move fun k hk _ => hk2 k (by have := HLO.out; omega)).mono fun k hk _ => by have := HLO.out; omega, (HR.out.2.2.move fun k hk _ => hk2 k (by have := HLO.out; omega)).mono fun k hk _ => by have := HLO.out; omega⟩
    have HBE := Aside.mk (hb2 HP.out.st.bel (Nat.le_refl _))
    have HW2 := Aside.mk hW2
    clear hk2 hb2 hW2
    cases b with
    | true =>
      go_upto_region 22 with fail
      go_region
      go_wp2_with fail
      refine bodyPost_ret (v := .tuple #[.agg #[.int .i64 o.kind, .int .i64 o.who.role, .int .i64 o.who.why, .int .i64 o.who.time, .slice X1 o.rules.length d1, .string o.r.id, .int .i64 o.r.cats, .slice X2 o.r.fields.length d2, .slice X3 o.r.refs.length d3, .string o.id, .string o.f.key, .string o.f.val], .bool false]) ?_ rfl ?_
      · simp [results, Tryz.results111, go_sem, p0]
      · rw [HPS.out, HW2.out]
        exact ⟨o, _, _, _, by rw [HS.out.1]; rfl, HS.out.2, ⟨_, _, rfl, HD.out.1, HM.out.1⟩, ⟨_, _, rfl, HD.out.2.1, HM.out.2.1⟩, ⟨_, _, rfl, HD.out.2.2, HM.out.2.2⟩, HBE.out⟩
    | false =>
      cases l with
      | nil =>
        go_upto_region 22 with fail
        go_region
        go_wp2_with fail
        refine bodyPost_ret (v := .tuple #[.agg #[.int .i64 o.kind, .int .i64 o.who.role, .int .i64 o.who.why, .int .i64 o.who.time, .slice X1 o.rules.length d1, .string o.r.id, .int .i64 o.r.cats, .slice X2 o.r.fields.length d2, .slice X3 o.r.refs.length d3, .string o.id, .string o.f.key, .string o.f.val], .bool true]) ?_ rfl ?_
        · simp [results, Tryz.results111, go_sem, p0]
        · rw [HPS.out, HW2.out]
          exact ⟨o, _, _, _, by rw [HS.out.1]; rfl, HS.out.2, ⟨_, _, rfl, HD.out.1, HM.out.1⟩, ⟨_, _, rfl, HD.out.2.1, HM.out.2.1⟩, ⟨_, _, rfl, HD.out.2.2, HM.out.2.2⟩, HBE.out⟩
      | cons a l =>
        have hz : ((((a :: l).length : Nat) : Int) == 0) = false := beq_eq_false_iff_ne.2 (by simp; omega)
        have hz2 : (((l.length : Nat) : Int) + 1 == 0) = false := beq_eq_false_iff_ne.2 (by omega)
        have hz3 : ¬ (((l.length : Nat) : Int) + 1 = 0) := by omega
        go_upto_region 22 with fail
        go_region
        go_wp2_with fail
        refine bodyPost_ret (v := .tuple #[.agg #[.int .i64 o.kind, .int .i64 o.who.role, .int .i64 o.who.why, .int .i64 o.who.time, .slice X1 o.rules.length d1, .string o.r.id, .int .i64 o.r.cats, .slice X2 o.r.fields.length d2, .slice X3 o.r.refs.length d3, .string o.id, .string o.f.key, .string o.f.val], .bool false]) ?_ rfl ?_
        · simp [results, Tryz.results111, go_sem, p0, hz, hz2, hz3]
        · rw [HPS.out, HW2.out]
          exact ⟨o, _, _, _, by rw [HS.out.1]; rfl, HS.out.2, ⟨_, _, rfl, HD.out.1, HM.out.1⟩, ⟨_, _, rfl, HD.out.2.1, HM.out.2.1⟩, ⟨_, _, rfl, HD.out.2.2, HM.out.2.2⟩, HBE.out⟩
end Go.Proofs.WK
