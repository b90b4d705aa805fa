/-
  Groups in memory: the program's, and the document's; what reads them.
-/
import Derived.Test.YtljjiicjnoljbaaGrpP
import Derived.Test.YtljjiicjnoljbaaDat
import Derived.Test.YtljjiicjnoljbaaLibS
namespace Go.Proofs.WK
open Go.RowKit Rp
theorem Bk.quad {w : World} {n : Nat} {x y z u : Value} (h : Bk w n [x, y, z, u]) : n < w.heap.size ∧ w.cell? ⟨n, 0, none⟩ = some x ∧ w.cell? ⟨n, 1, none⟩ = some y ∧ w.cell? ⟨n, 2, none⟩ = some z ∧ w.cell? ⟨n, 3, none⟩ = some u ∧ (∀ o, w.frozen? ⟨n, o, none⟩ = false) :=
  ⟨h.lt, h.cell 0, h.cell 1, h.cell 2, h.cell 3, h.frozen⟩
/-- Nothing but blocks of S has changed of what was there. -/
structure Chg (S : Nat → Prop) (w w' : World) : Prop where
  os : w'.os = w.os
  tape : w'.tape = w.tape
  output : w'.output = w.output
  size : w.heap.size ≤ w'.heap.size
  block : ∀ k, k < w.heap.size → ¬ S k → w'.heap[k]? = w.heap[k]?
theorem Chg.refl (S : Nat → Prop) (w : World) : Chg S w w := ⟨rfl, rfl, rfl, Nat.le_refl _, fun _ _ _ => rfl⟩
theorem Chg.of_below {S : Nat → Prop} {w w' : World} (h : Below w.heap.size w w') : Chg S w w' := ⟨h.os, h.tape, h.output, h.size, fun k hk _ => h.block k hk⟩
theorem Chg.of_grown {S : Nat → Prop} {w w' : World} {r : Option Nat} (h : w.grownBy w' r) (hr : ∀ k, r = some k → S k) : Chg S w w' :=
  ⟨h.os, h.tape, h.output, h.size, fun k hk hs => h.block k hk fun e => hs (hr k e.symm)⟩
theorem Chg.trans {S S' : Nat → Prop} {w w1 w2 : World} (h : Chg S w w1) (h' : Chg S' w1 w2) (hs : ∀ k, k < w.heap.size → S' k → S k) : Chg S w w2 :=
  ⟨h'.os.trans h.os, h'.tape.trans h.tape, h'.output.trans h.output, Nat.le_trans h.size h'.size, fun k hk hn => (h'.block k (Nat.lt_of_lt_of_le hk h.size) fun e => hn (hs k hk e)).trans (h.block k hk hn)⟩
theorem Chg.below {S : Nat → Prop} {w w' : World} {B : Nat} (h : Chg S w w') (hs : ∀ k, S k → B ≤ k) (hB : B ≤ w.heap.size) : Below B w w' :=
  ⟨h.os, h.tape, h.output, h.size, fun k hk => h.block k (by omega) fun e => by have := hs k e; omega⟩
/-- Block ga is a group of the program's; G: its blocks. -/
structure GrpAt (w : World) (G : Nat → Prop) (ga hb kb : Nat) (g : Grp) (lg : List ByteArray) (vl v0 : Value) (hs : List Value) : Prop where
  bk : Bk w ga [.int .i64 g.has.length, vl, .slice (some ⟨hb, 0, none⟩) g.has.length g.has.length, .slice (some ⟨kb, 0, none⟩) g.has.length g.has.length]
  kk : Bk w kb (g.ack.map (Value.int .i64))
  hh : Bk w hb hs
  hl : hs.length = g.has.length
  h0 : hs[0]? = some v0
  ol : str.Own 9 w 0 (fun _ => False) vl lg
  o0 : str.Own 9 w 0 (fun _ => False) v0 (g.lst 0)
  sl : ∀ i v, 1 ≤ i → hs[i]? = some v → str.Sl w (fun k => G k ∧ k ≠ ga ∧ k ≠ hb ∧ k ≠ kb ∧ some k ≠ vl.ownBlock ∧ some k ≠ v0.ownBlock) v (g.lst i)
  inG : G ga ∧ G hb ∧ G kb ∧ (∀ k, vl.ownBlock = some k → G k) ∧ ∀ k, v0.ownBlock = some k → G k
  ne : ga ≠ hb ∧ ga ≠ kb ∧ hb ≠ kb ∧ (∀ k, vl.ownBlock = some k → k ≠ ga ∧ k ≠ hb ∧ k ≠ kb ∧ v0.ownBlock ≠ some k) ∧ ∀ k, v0.ownBlock = some k → k ≠ ga ∧ k ≠ hb ∧ k ≠ kb
def GrpIs (w : World) (G : Nat → Prop) (ga : Nat) (g : Grp) : Prop := ∃ hb kb vl v0 hs, GrpAt w G ga hb kb g (g.lst 0) vl v0 hs
theorem GrpAt.move {w w' : World} {G : Nat → Prop} {ga hb kb : Nat} {g : Grp} {lg : List ByteArray} {vl v0 : Value} {hs : List Value} (h : GrpAt w G ga hb kb g lg vl v0 hs) (hm : ∀ k, G k → k < w.heap.size → w'.heap[k]? = w.heap[k]?) : GrpAt w' G ga hb kb g lg vl v0 hs := by
  have mb : ∀ {n cs}, G n → Bk w n cs → Bk w' n cs := fun hn hb => by
    obtain ⟨t, e⟩ := hb
    exact ⟨t, (hm _ hn (Array.getElem?_eq_some_iff.1 e).1).trans e⟩
  refine ⟨mb h.inG.1 h.bk, mb h.inG.2.2.1 h.kk, mb h.inG.2.1 h.hh, h.hl, h.h0, h.ol.move (fun k hk => hm k (h.inG.2.2.2.1 k hk) (h.ol.lt k hk).2) (fun k hk => hk.elim), h.o0.move (fun k hk => hm k (h.inG.2.2.2.2 k hk) (h.o0.lt k hk).2) (fun k hk => hk.elim), fun i v hi hv => (h.sl i v hi hv).move fun k hk hl => hm k hk.1 hl, h.inG, h.ne⟩
theorem GrpIs.move {w w' : World} {G : Nat → Prop} {ga : Nat} {g : Grp} (h : GrpIs w G ga g) (hm : ∀ k, G k → k < w.heap.size → w'.heap[k]? = w.heap[k]?) : GrpIs w' G ga g := by
  obtain ⟨hb, kb, vl, v0, hs, h⟩ := h
  exact ⟨hb, kb, vl, v0, hs, h.move hm⟩
theorem GrpIs.below {w w' : World} {G : Nat → Prop} {ga : Nat} {g : Grp} (h : GrpIs w G ga g) (hb : Below w.heap.size w w') : GrpIs w' G ga g := h.move fun k _ hl => hb.block k hl
theorem GrpIs.lt {w : World} {G : Nat → Prop} {ga : Nat} {g : Grp} (h : GrpIs w G ga g) : ga < w.heap.size := by
  obtain ⟨_, _, _, _, _, h⟩ := h
  exact h.bk.lt
/-- Each list, as its place holds it. -/
theorem GrpAt.at_ {w : World} {G : Nat → Prop} {ga hb kb : Nat} {g : Grp} {lg : List ByteArray} {vl v0 : Value} {hs : List Value} (h : GrpAt w G ga hb kb g lg vl v0 hs) {i : Nat} (hi : i < g.has.length) : ∃ A c, w.cell? ⟨hb, i, none⟩ = some (.slice A (g.lst i).length c) ∧ (g.lst i).length ≤ c ∧ str.Row w G A (g.lst i) := by
  have hlt : i < hs.length := by rw [h.hl]; exact hi
  have hc : w.cell? ⟨hb, i, none⟩ = some hs[i] := by rw [h.hh.cell, List.getElem?_eq_getElem hlt]
  by_cases h1 : i = 0
  · subst h1
    have e : hs[0] = v0 := by
      have := h.h0
      rw [List.getElem?_eq_getElem hlt] at this
      injection this
    obtain ⟨A, c, e2, hl, hr⟩ := h.o0.sl
    exact ⟨A, c, by rw [hc, e, e2], hl, hr.mono fun k hk _ => hk.elim False.elim fun hk => h.inG.2.2.2.2 k hk⟩
  · obtain ⟨A, c, e2, hl, hr⟩ := h.sl i hs[i] (by omega) (List.getElem?_eq_getElem hlt)
    exact ⟨A, c, by rw [hc, e2], hl, hr.mono fun k hk _ => hk.1⟩
/-- Block gm is a group of the document's; G: its blocks. -/
structure RGrpAt (w : World) (G : Nat → Prop) (gm hm km : Nat) (g : Grp) (hs : List Value) : Prop where
  bk : Bk w gm [.slice (some ⟨hm, 0, none⟩) g.has.length g.has.length, .slice (some ⟨km, 0, none⟩) g.has.length g.has.length]
  kk : Bk w km (g.ack.map (Value.int .i64))
  hh : Bk w hm hs
  hl : hs.length = g.has.length
  sl : ∀ i v, hs[i]? = some v → str.Sl w (fun k => G k ∧ k ≠ gm ∧ k ≠ hm ∧ k ≠ km) v (g.lst i)
  inG : G gm ∧ G hm ∧ G km
  ne : gm ≠ hm ∧ gm ≠ km ∧ hm ≠ km
def RGrpIs (w : World) (G : Nat → Prop) (gm : Nat) (g : Grp) : Prop := ∃ hm km hs, RGrpAt w G gm hm km g hs
theorem RGrpIs.move {w w' : World} {G : Nat → Prop} {gm : Nat} {g : Grp} (h : RGrpIs w G gm g) (hmv : ∀ k, G k → k < w.heap.size → w'.heap[k]? = w.heap[k]?) : RGrpIs w' G gm g := by
  obtain ⟨hm, km, hs, h⟩ := h
  have mb : ∀ {n cs}, G n → Bk w n cs → Bk w' n cs := fun hn hb => by
    obtain ⟨t, e⟩ := hb
    exact ⟨t, (hmv _ hn (Array.getElem?_eq_some_iff.1 e).1).trans e⟩
  exact ⟨hm, km, hs, mb h.inG.1 h.bk, mb h.inG.2.2 h.kk, mb h.inG.2.1 h.hh, h.hl, fun i v hv => (h.sl i v hv).move fun k hk hl => hmv k hk.1 hl, h.inG, h.ne⟩
theorem RGrpIs.below {w w' : World} {G : Nat → Prop} {gm : Nat} {g : Grp} (h : RGrpIs w G gm g) (hb : Below w.heap.size w w') : RGrpIs w' G gm g := h.move fun k _ hl => hb.block k hl
theorem RGrpAt.at_ {w : World} {G : Nat → Prop} {gm hm km : Nat} {g : Grp} {hs : List Value} (h : RGrpAt w G gm hm km g hs) {i : Nat} (hi : i < g.has.length) : ∃ A c, w.cell? ⟨hm, i, none⟩ = some (.slice A (g.lst i).length c) ∧ (g.lst i).length ≤ c ∧ str.Row w G A (g.lst i) := by
  have hlt : i < hs.length := by rw [h.hl]; exact hi
  have hc : w.cell? ⟨hm, i, none⟩ = some hs[i] := by rw [h.hh.cell, List.getElem?_eq_getElem hlt]
  obtain ⟨A, c, e2, hl, hr⟩ := h.sl i hs[i] (List.getElem?_eq_getElem hlt)
  exact ⟨A, c, by rw [hc, e2], hl, hr.mono fun k hk _ => hk.1⟩
theorem ack_at {w : World} {kb : Nat} {l : List Int} (h : Bk w kb (l.map (Value.int .i64))) {i : Nat} (hi : i < l.length) : w.cell? ⟨kb, i, none⟩ = some (.int .i64 (l[i]?.getD 0)) := by
  rw [h.cell, List.getElem?_map, List.getElem?_eq_getElem hi]
  rfl
end Go.Proofs.WK
