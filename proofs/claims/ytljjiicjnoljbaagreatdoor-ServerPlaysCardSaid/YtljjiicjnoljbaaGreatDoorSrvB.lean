/-
  (*Server).Do, kind by kind: put, cut.
  (*Server).Do, kind by kind: rules.
  (*Server).Do, kind by kind: get, hist, find; and who may not ask.
  (*Server).Do at the kinds 1 to 6: one contract.
-/
import Derived.Test.YtljjiicjnoljbaaGreatDoorSrvA
import Derived.Test.YtljjiicjnoljbaaGreatDoorFnd0
namespace Go.Proofs.WK
open Go.RowKit Rp
/-- A variable that is set behind everything that was there: nothing turns. -/
theorem grown_new {w w1 : World} {g n : Nat} (h : w.grownBy w1 (some g)) (hn : w.heap.size ≤ n) (o : Nat) (v : Value) : w.grownBy (w1.setCell ⟨n, o, none⟩ v) (some g) := by
  refine ⟨h.os, h.tape, h.output, ?_, fun k hk hne => (Below.heap_setCell _ _ _ k (fun e => by have e2 : k = n := e; omega)).trans (h.block k hk hne)⟩
  show w.heap.size ≤ (w1.heap.modify n _).size
  simpa using h.size
theorem told_heap {w : World} {a b k : Nat} {u c d e f : Value} (ha : k ≠ a) (hb : k ≠ b) : (((((w.setCell ⟨b, 0, none⟩ u).setCell ⟨a, 0, none⟩ c).setCell ⟨a, 1, none⟩ d).setCell ⟨a, 2, none⟩ e).setCell ⟨a, 3, none⟩ f).heap[k]? = w.heap[k]? := by
  rw [sets4 ha]
  exact Below.heap_setCell _ _ _ k hb
theorem told_grown {w w1 : World} {g a b : Nat} {u c d e f : Value} (h : w.grownBy w1 (some g)) (ha : w.heap.size ≤ a) (hb : w.heap.size ≤ b) : w.grownBy (((((w1.setCell ⟨b, 0, none⟩ u).setCell ⟨a, 0, none⟩ c).setCell ⟨a, 1, none⟩ d).setCell ⟨a, 2, none⟩ e).setCell ⟨a, 3, none⟩ f) (some g) :=
  grown_new (grown_new (grown_new (grown_new (grown_new h hb _ _) ha _ _) ha _ _) ha _ _) ha _ _
set_option maxHeartbeats 4000000 in
set_option maxRecDepth 100000 in
theorem doPut (g : Nat) (F : Nat → Prop) (s : Srv) (o : OpV) (hk : o.kind = 2) (B1 : Option Addr) (e1 : Nat) (B2 : Option Addr) (e2 : Nat) (B3 : Option Addr) (e3 : Nat) (ok1 ok2 : Nat → Prop) (w : World) (h : SrvIs w g F s) (hF : ∀ k, F k → k ≠ g)
    (hf : fldR.Row w ok1 B2 o.r.fields) (hf2 : o.r.fields.length ≤ e2) (hg : str.Row w ok2 B3 o.r.refs) (hg2 : o.r.refs.length ≤ e3) :
    Calls Tryz.prog 12 #[.pointer (some ⟨g, 0, none⟩), opVal o B1 e1 B2 e2 B3 e3] w fun e w' => e = .returned (.agg #[.int .i64 (putE s o), .slice none 0 0, .slice none 0 0, .slice none 0 0]) ∧ SrvIs w' g (fun k => F k ∨ w.heap.size ≤ k) (doS s o).1 ∧ w.grownBy w' (some g) := by
  rw [doS_put hk]
  obtain ⟨pe, hpe⟩ : ∃ pe, putE s o = pe := ⟨_, rfl⟩
  obtain ⟨s', hs'⟩ : ∃ s', (if putE s o = 0 then { s with l := putV s.l o.r } else s) = s' := ⟨_, rfl⟩
  rw [hs', hpe]
  have HPE := Aside.mk hpe
  have HS' := Aside.mk hs'
  have hgl : g < w.heap.size := by obtain ⟨_, _, _, _, _, _, _, _, h0, _⟩ := h; exact h0.lt
  have hb0 : Below w.heap.size w (((w.alloc (.cells #[.int .i64 2, .int .i64 o.who.role, .int .i64 o.who.why, .int .i64 o.who.time, .slice B1 o.rules.length e1, .string o.r.id, .int .i64 o.r.cats, .slice B2 o.r.fields.length e2, .slice B3 o.r.refs.length e3, .string o.id, .string o.f.key, .string o.f.val] 40)).alloc (.cells #[.int .i64 0, .slice none 0 0, .slice none 0 0, .slice none 0 0] 45)).alloc (.cells #[.int .i64 0, .slice none 0 0, .slice none 0 0, .slice none 0 0] 45)) := (((Below.refl _ _).alloc (Nat.le_refl _) _).alloc (by simp) _).alloc (by simp; omega) _
  have hz : (((w.alloc (.cells #[.int .i64 2, .int .i64 o.who.role, .int .i64 o.who.why, .int .i64 o.who.time, .slice B1 o.rules.length e1, .string o.r.id, .int .i64 o.r.cats, .slice B2 o.r.fields.length e2, .slice B3 o.r.refs.length e3, .string o.id, .string o.f.key, .string o.f.val] 40)).alloc (.cells #[.int .i64 0, .slice none 0 0, .slice none 0 0, .slice none 0 0] 45)).alloc (.cells #[.int .i64 0, .slice none 0 0, .slice none 0 0, .slice none 0 0] 45)).heap.size = w.heap.size + 1 + 1 + 1 := by simp
  have hc := serverPut g (fun k => F k ∧ k < w.heap.size) s o B1 e1 B2 e2 B3 e3 ok1 ok2 _ ((h.more (F' := fun k => F k ∧ k < w.heap.size) fun k hk hl => ⟨hk, hl⟩).below hb0) (fun k hk => hF k hk.1) (hf.below hb0) hf2 (hg.below hb0) hg2
  rw [hs', hpe] at hc
  unfold opVal at hc
  rw [hk] at hc
  have hb1 := (Bk.made (w.alloc (.cells #[.int .i64 2, .int .i64 o.who.role, .int .i64 o.who.why, .int .i64 o.who.time, .slice B1 o.rules.length e1, .string o.r.id, .int .i64 o.r.cats, .slice B2 o.r.fields.length e2, .slice B3 o.r.refs.length e3, .string o.id, .string o.f.key, .string o.f.val] 40)) [.int .i64 0, .slice none 0 0, .slice none 0 0, .slice none 0 0] 45).alloc (.cells #[.int .i64 0, .slice none 0 0, .slice none 0 0, .slice none 0 0] 45)
  have hb2 := Bk.made ((w.alloc (.cells #[.int .i64 2, .int .i64 o.who.role, .int .i64 o.who.why, .int .i64 o.who.time, .slice B1 o.rules.length e1, .string o.r.id, .int .i64 o.r.cats, .slice B2 o.r.fields.length e2, .slice B3 o.r.refs.length e3, .string o.id, .string o.f.key, .string o.f.val] 40)).alloc (.cells #[.int .i64 0, .slice none 0 0, .slice none 0 0, .slice none 0 0] 45)) [.int .i64 0, .slice none 0 0, .slice none 0 0, .slice none 0 0] 45
  rw [show (w.alloc (.cells #[.int .i64 2, .int .i64 o.who.role, .int .i64 o.who.why, .int .i64 o.who.time, .slice B1 o.rules.length e1, .string o.r.id, .int .i64 o.r.cats, .slice B2 o.r.fields.length e2, .slice B3 o.r.refs.length e3, .string o.id, .string o.f.key, .string o.f.val] 40)).heap.size = w.heap.size + 1 by simp] at hb1
  rw [show ((w.alloc (.cells #[.int .i64 2, .int .i64 o.who.role, .int .i64 o.who.why, .int .i64 o.who.time, .slice B1 o.rules.length e1, .string o.r.id, .int .i64 o.r.cats, .slice B2 o.r.fields.length e2, .slice B3 o.r.refs.length e3, .string o.id, .string o.f.key, .string o.f.val] 40)).alloc (.cells #[.int .i64 0, .slice none 0 0, .slice none 0 0, .slice none 0 0] 45)).heap.size = w.heap.size + 1 + 1 by simp] at hb2
  have HC := Aside.mk hc
  have HQ1 := Aside.mk hb1
  have HQ2 := Aside.mk hb2
  have HZ := Aside.mk hz
  have HG0 := Aside.mk (below_grown hb0 (some g))
  have HGL := Aside.mk hgl
  clear h hF hf hf2 hg hg2 hpe hs' hc hb0 hb1 hb2 hz hgl
  unfold opVal
  rw [hk]
  go_enter Tryz.func12, Tryz.ntmps12
  go_wp2_with fail
  refine HC.out.mono ?_
  rintro e w1 ⟨rfl, hs, hg1⟩
  have hne1 : some (w.heap.size + 1) ≠ some g := fun e => by have := HGL.out; injection e with e; omega
  have hne2 : some (w.heap.size + 1 + 1) ≠ some g := fun e => by have := HGL.out; injection e with e; omega
  have q1 := (HQ1.out.grown hg1 hne1).four
  have q2 := (HQ2.out.grown hg1 hne2).four
  have HS1 := Aside.mk hs
  have HG1 := Aside.mk (HG0.out.trans hg1)
  clear hs hg1 hne1 hne2
  go_wp2_with fail
  refine bodyPost_ret (v := .agg #[.int .i64 pe, .slice none 0 0, .slice none 0 0, .slice none 0 0]) ?_ rfl ⟨rfl, ?_, ?_⟩
  · simp [results, Tryz.results12, go_sem, q1]
  · refine (SrvIs.move HS1.out (told_heap (by have := HGL.out; omega) (by have := HGL.out; omega)) fun k hk _ => told_heap ?_ ?_).more fun k hk _ => hk.imp (fun h => h.1) fun h => by have := HZ.out; omega
    · have := HZ.out; omega
    · have := HZ.out; omega
  · exact told_grown HG1.out (by omega) (by omega)
set_option maxHeartbeats 4000000 in
set_option maxRecDepth 100000 in
theorem doCut (g : Nat) (F : Nat → Prop) (s : Srv) (o : OpV) (hk : o.kind = 3) (B1 : Option Addr) (e1 : Nat) (B2 : Option Addr) (e2 : Nat) (B3 : Option Addr) (e3 : Nat) (w : World) (h : SrvIs w g F s) (hF : ∀ k, F k → k ≠ g) :
    Calls Tryz.prog 12 #[.pointer (some ⟨g, 0, none⟩), opVal o B1 e1 B2 e2 B3 e3] w fun e w' => e = .returned (.agg #[.int .i64 (cutE s o), .slice none 0 0, .slice none 0 0, .slice none 0 0]) ∧ SrvIs w' g (fun k => F k ∨ w.heap.size ≤ k) (doS s o).1 ∧ w.grownBy w' (some g) := by
  rw [doS_cut hk]
  obtain ⟨pe, hpe⟩ : ∃ pe, cutE s o = pe := ⟨_, rfl⟩
  obtain ⟨s', hs'⟩ : ∃ s', (if cutE s o = 0 then { s with l := cutV s.l o.id o.r.cats } else s) = s' := ⟨_, rfl⟩
  rw [hs', hpe]
  have HPE := Aside.mk hpe
  have HS' := Aside.mk hs'
  have hgl : g < w.heap.size := by obtain ⟨_, _, _, _, _, _, _, _, h0, _⟩ := h; exact h0.lt
  have hb0 : Below w.heap.size w (((w.alloc (.cells #[.int .i64 3, .int .i64 o.who.role, .int .i64 o.who.why, .int .i64 o.who.time, .slice B1 o.rules.length e1, .string o.r.id, .int .i64 o.r.cats, .slice B2 o.r.fields.length e2, .slice B3 o.r.refs.length e3, .string o.id, .string o.f.key, .string o.f.val] 40)).alloc (.cells #[.int .i64 0, .slice none 0 0, .slice none 0 0, .slice none 0 0] 45)).alloc (.cells #[.int .i64 0, .slice none 0 0, .slice none 0 0, .slice none 0 0] 45)) := (((Below.refl _ _).alloc (Nat.le_refl _) _).alloc (by simp) _).alloc (by simp; omega) _
  have hz : (((w.alloc (.cells #[.int .i64 3, .int .i64 o.who.role, .int .i64 o.who.why, .int .i64 o.who.time, .slice B1 o.rules.length e1, .string o.r.id, .int .i64 o.r.cats, .slice B2 o.r.fields.length e2, .slice B3 o.r.refs.length e3, .string o.id, .string o.f.key, .string o.f.val] 40)).alloc (.cells #[.int .i64 0, .slice none 0 0, .slice none 0 0, .slice none 0 0] 45)).alloc (.cells #[.int .i64 0, .slice none 0 0, .slice none 0 0, .slice none 0 0] 45)).heap.size = w.heap.size + 1 + 1 + 1 := by simp
  have hc := serverCut g (fun k => F k ∧ k < w.heap.size) s o B1 e1 B2 e2 B3 e3 _ ((h.more (F' := fun k => F k ∧ k < w.heap.size) fun k hk hl => ⟨hk, hl⟩).below hb0) (fun k hk => hF k hk.1)
  rw [hs', hpe] at hc
  unfold opVal at hc
  rw [hk] at hc
  have hb1 := (Bk.made (w.alloc (.cells #[.int .i64 3, .int .i64 o.who.role, .int .i64 o.who.why, .int .i64 o.who.time, .slice B1 o.rules.length e1, .string o.r.id, .int .i64 o.r.cats, .slice B2 o.r.fields.length e2, .slice B3 o.r.refs.length e3, .string o.id, .string o.f.key, .string o.f.val] 40)) [.int .i64 0, .slice none 0 0, .slice none 0 0, .slice none 0 0] 45).alloc (.cells #[.int .i64 0, .slice none 0 0, .slice none 0 0, .slice none 0 0] 45)
  have hb2 := Bk.made ((w.alloc (.cells #[.int .i64 3, .int .i64 o.who.role, .int .i64 o.who.why, .int .i64 o.who.time, .slice B1 o.rules.length e1, .string o.r.id, .int .i64 o.r.cats, .slice B2 o.r.fields.length e2, .slice B3 o.r.refs.length e3, .string o.id, .string o.f.key, .string o.f.val] 40)).alloc (.cells #[.int .i64 0, .slice none 0 0, .slice none 0 0, .slice none 0 0] 45)) [.int .i64 0, .slice none 0 0, .slice none 0 0, .slice none 0 0] 45
  rw [show (w.alloc (.cells #[.int .i64 3, .int .i64 o.who.role, .int .i64 o.who.why, .int .i64 o.who.time, .slice B1 o.rules.length e1, .string o.r.id, .int .i64 o.r.cats, .slice B2 o.r.fields.length e2, .slice B3 o.r.refs.length e3, .string o.id, .string o.f.key, .string o.f.val] 40)).heap.size = w.heap.size + 1 by simp] at hb1
  rw [show ((w.alloc (.cells #[.int .i64 3, .int .i64 o.who.role, .int .i64 o.who.why, .int .i64 o.who.time, .slice B1 o.rules.length e1, .string o.r.id, .int .i64 o.r.cats, .slice B2 o.r.fields.length e2, .slice B3 o.r.refs.length e3, .string o.id, .string o.f.key, .string o.f.val] 40)).alloc (.cells #[.int .i64 0, .slice none 0 0, .slice none 0 0, .slice none 0 0] 45)).heap.size = w.heap.size + 1 + 1 by simp] at hb2
  have HC := Aside.mk hc
  have HQ1 := Aside.mk hb1
  have HQ2 := Aside.mk hb2
  have HZ := Aside.mk hz
  have HG0 := Aside.mk (below_grown hb0 (some g))
  have HGL := Aside.mk hgl
  clear h hF hpe hs' hc hb0 hb1 hb2 hz hgl
  unfold opVal
  rw [hk]
  go_enter Tryz.func12, Tryz.ntmps12
  go_wp2_with fail
  refine HC.out.mono ?_
  rintro e w1 ⟨rfl, hs, hg1⟩
  have hne1 : some (w.heap.size + 1) ≠ some g := fun e => by have := HGL.out; injection e with e; omega
  have hne2 : some (w.heap.size + 1 + 1) ≠ some g := fun e => by have := HGL.out; injection e with e; omega
  have q1 := (HQ1.out.grown hg1 hne1).four
  have q2 := (HQ2.out.grown hg1 hne2).four
  have HS1 := Aside.mk hs
  have HG1 := Aside.mk (HG0.out.trans hg1)
  clear hs hg1 hne1 hne2
  go_wp2_with fail
  refine bodyPost_ret (v := .agg #[.int .i64 pe, .slice none 0 0, .slice none 0 0, .slice none 0 0]) ?_ rfl ⟨rfl, ?_, ?_⟩
  · simp [results, Tryz.results12, go_sem, q1]
  · refine (SrvIs.move HS1.out (told_heap (by have := HGL.out; omega) (by have := HGL.out; omega)) fun k hk _ => told_heap ?_ ?_).more fun k hk _ => hk.imp (fun h => h.1) fun h => by have := HZ.out; omega
    · have := HZ.out; omega
    · have := HZ.out; omega
  · exact told_grown HG1.out (by omega) (by omega)
end Go.Proofs.WK
namespace Go.Proofs.WK
open Go.RowKit Rp
theorem own_rul {t : TypeId} {w : World} {base : Nat} {ok : Nat → Prop} {v : Value} {xs : List Rul} (h : rulR.Own t w base ok v xs) : rulR.Own t w base (fun _ => False) v xs := by
  obtain ⟨inner, h1, h2, h3⟩ := h
  exact ⟨inner, h1, h2, fun j p hp => rulK.2 (rulK.1 (h3 j p hp))⟩
/-- The server's rules are others from now on. -/
theorem SrvIs.setR {w : World} {g : Nat} {F : Nat → Prop} {s : Srv} (h : SrvIs w g F s) (hF : ∀ k, F k → k ≠ g) {v : Value} {l : List Rul} (hl : rulR.Sl w F v l) : SrvIs (w.setCell ⟨g, 1, none⟩ v) g F { s with rules := l } := by
  obtain ⟨A1, c1, A2, c2, A3, c3, A4, c4, h0, h1, h2, h3, h4⟩ := h
  obtain ⟨A5, c5, rfl, h5, h6⟩ := hl
  have hm : ∀ k, F k → k < w.heap.size → (w.setCell ⟨g, 1, none⟩ (.slice A5 l.length c5)).heap[k]? = w.heap[k]? := fun k hk _ => Below.heap_setCell _ _ _ k (hF k hk)
  exact ⟨A1, c1, A5, c5, A3, c3, A4, c4, h0.set 1 _, ⟨h1.1, h1.2.move hm⟩, ⟨h5, h6.move hm⟩, ⟨h3.1, h3.2.move hm⟩, h4⟩
set_option maxHeartbeats 4000000 in
set_option maxRecDepth 100000 in
theorem doRules_bad (g : Nat) (F : Nat → Prop) (s : Srv) (o : OpV) (hk : o.kind = 1) (B1 : Option Addr) (e1 : Nat) (B2 : Option Addr) (e2 : Nat) (B3 : Option Addr) (e3 : Nat) (ok1 : Nat → Prop) (w : World) (h : SrvIs w g F s)
    (hf : rulR.Row w ok1 B1 o.rules) (h0 : ¬ rulesErr o.rules = 0) :
    Calls Tryz.prog 12 #[.pointer (some ⟨g, 0, none⟩), opVal o B1 e1 B2 e2 B3 e3] w fun e w' => e = .returned (.agg #[.int .i64 (rulesErr o.rules), .slice none 0 0, .slice none 0 0, .slice none 0 0]) ∧ SrvIs w' g (fun k => F k ∨ w.heap.size ≤ k) (doS s o).1 ∧ w.grownBy w' (some g) := by
  rw [doS_rules hk, if_neg h0]
  have hgl : g < w.heap.size := by obtain ⟨_, _, _, _, _, _, _, _, h0, _⟩ := h; exact h0.lt
  have hb0 : Below w.heap.size w (((w.alloc (.cells #[.int .i64 1, .int .i64 o.who.role, .int .i64 o.who.why, .int .i64 o.who.time, .slice B1 o.rules.length e1, .string o.r.id, .int .i64 o.r.cats, .slice B2 o.r.fields.length e2, .slice B3 o.r.refs.length e3, .string o.id, .string o.f.key, .string o.f.val] 40)).alloc (.cells #[.int .i64 0, .slice none 0 0, .slice none 0 0, .slice none 0 0] 45)).alloc (.cells #[.int .i64 0, .slice none 0 0, .slice none 0 0, .slice none 0 0] 45)) := (((Below.refl _ _).alloc (Nat.le_refl _) _).alloc (by simp) _).alloc (by simp; omega) _
  have hz : (((w.alloc (.cells #[.int .i64 1, .int .i64 o.who.role, .int .i64 o.who.why, .int .i64 o.who.time, .slice B1 o.rules.length e1, .string o.r.id, .int .i64 o.r.cats, .slice B2 o.r.fields.length e2, .slice B3 o.r.refs.length e3, .string o.id, .string o.f.key, .string o.f.val] 40)).alloc (.cells #[.int .i64 0, .slice none 0 0, .slice none 0 0, .slice none 0 0] 45)).alloc (.cells #[.int .i64 0, .slice none 0 0, .slice none 0 0, .slice none 0 0] 45)).heap.size = w.heap.size + 1 + 1 + 1 := by simp
  have hb1 := (Bk.made (w.alloc (.cells #[.int .i64 1, .int .i64 o.who.role, .int .i64 o.who.why, .int .i64 o.who.time, .slice B1 o.rules.length e1, .string o.r.id, .int .i64 o.r.cats, .slice B2 o.r.fields.length e2, .slice B3 o.r.refs.length e3, .string o.id, .string o.f.key, .string o.f.val] 40)) [.int .i64 0, .slice none 0 0, .slice none 0 0, .slice none 0 0] 45).alloc (.cells #[.int .i64 0, .slice none 0 0, .slice none 0 0, .slice none 0 0] 45)
  have hb2 := Bk.made ((w.alloc (.cells #[.int .i64 1, .int .i64 o.who.role, .int .i64 o.who.why, .int .i64 o.who.time, .slice B1 o.rules.length e1, .string o.r.id, .int .i64 o.r.cats, .slice B2 o.r.fields.length e2, .slice B3 o.r.refs.length e3, .string o.id, .string o.f.key, .string o.f.val] 40)).alloc (.cells #[.int .i64 0, .slice none 0 0, .slice none 0 0, .slice none 0 0] 45)) [.int .i64 0, .slice none 0 0, .slice none 0 0, .slice none 0 0] 45
  rw [show (w.alloc (.cells #[.int .i64 1, .int .i64 o.who.role, .int .i64 o.who.why, .int .i64 o.who.time, .slice B1 o.rules.length e1, .string o.r.id, .int .i64 o.r.cats, .slice B2 o.r.fields.length e2, .slice B3 o.r.refs.length e3, .string o.id, .string o.f.key, .string o.f.val] 40)).heap.size = w.heap.size + 1 by simp] at hb1
  rw [show ((w.alloc (.cells #[.int .i64 1, .int .i64 o.who.role, .int .i64 o.who.why, .int .i64 o.who.time, .slice B1 o.rules.length e1, .string o.r.id, .int .i64 o.r.cats, .slice B2 o.r.fields.length e2, .slice B3 o.r.refs.length e3, .string o.id, .string o.f.key, .string o.f.val] 40)).alloc (.cells #[.int .i64 0, .slice none 0 0, .slice none 0 0, .slice none 0 0] 45)).heap.size = w.heap.size + 1 + 1 by simp] at hb2
  have HS := Aside.mk ((h.more (F' := fun k => F k ∧ k < w.heap.size) fun k hk hl => ⟨hk, hl⟩).below hb0)
  have HR := Aside.mk (And.intro hf.1 (hf.below hb0))
  have HQ1 := Aside.mk hb1
  have HQ2 := Aside.mk hb2
  have HZ := Aside.mk hz
  have HB := Aside.mk hb0
  have HGL := Aside.mk hgl
  have g3 : (rulesErr o.rules == 0) = false := by simp [h0]
  clear h hf hb0 hb1 hb2 hz hgl h0
  unfold opVal
  rw [hk]
  go_enter Tryz.func12, Tryz.ntmps12
  go_wp2_with fail
  refine (ruleCheck _ _ o.rules _ _ HR.out.2 HR.out.1).mono ?_
  rintro e w1 ⟨rfl, hb⟩
  have q1 := (HQ1.out.below hb).four
  have q2 := (HQ2.out.below hb).four
  have HS1 := Aside.mk (HS.out.below hb)
  have HG1 := Aside.mk (below_grown (below_step HB.out hb) (some g))
  clear hb
  go_wp2_with fail
  refine bodyPost_ret (v := .agg #[.int .i64 (rulesErr o.rules), .slice none 0 0, .slice none 0 0, .slice none 0 0]) ?_ rfl ⟨rfl, ?_, ?_⟩
  · simp [results, Tryz.results12, go_sem, q1]
  · refine (SrvIs.move HS1.out (told_heap (by have := HGL.out; omega) (by have := HGL.out; omega)) fun k hk _ => told_heap ?_ ?_).more fun k hk _ => .inl hk.1
    · have := hk.2; omega
    · have := hk.2; omega
  · exact told_grown HG1.out (by omega) (by omega)
set_option maxHeartbeats 4000000 in
set_option maxRecDepth 100000 in
theorem doRules_ok (g : Nat) (F : Nat → Prop) (s : Srv) (o : OpV) (hk : o.kind = 1) (B1 : Option Addr) (e1 : Nat) (B2 : Option Addr) (e2 : Nat) (B3 : Option Addr) (e3 : Nat) (ok1 : Nat → Prop) (w : World) (h : SrvIs w g F s)
    (hf : rulR.Row w ok1 B1 o.rules) (h0 : rulesErr o.rules = 0) (hF : ∀ k, F k → k ≠ g) :
    Calls Tryz.prog 12 #[.pointer (some ⟨g, 0, none⟩), opVal o B1 e1 B2 e2 B3 e3] w fun e w' => e = .returned (.agg #[.int .i64 0, .slice none 0 0, .slice none 0 0, .slice none 0 0]) ∧ SrvIs w' g (fun k => F k ∨ w.heap.size ≤ k) (doS s o).1 ∧ w.grownBy w' (some g) := by
  rw [doS_rules hk, if_pos h0]
  have hgl : g < w.heap.size := by obtain ⟨_, _, _, _, _, _, _, _, h0, _⟩ := h; exact h0.lt
  have hb0 : Below w.heap.size w (((w.alloc (.cells #[.int .i64 1, .int .i64 o.who.role, .int .i64 o.who.why, .int .i64 o.who.time, .slice B1 o.rules.length e1, .string o.r.id, .int .i64 o.r.cats, .slice B2 o.r.fields.length e2, .slice B3 o.r.refs.length e3, .string o.id, .string o.f.key, .string o.f.val] 40)).alloc (.cells #[.int .i64 0, .slice none 0 0, .slice none 0 0, .slice none 0 0] 45)).alloc (.cells #[.int .i64 0, .slice none 0 0, .slice none 0 0, .slice none 0 0] 45)) := (((Below.refl _ _).alloc (Nat.le_refl _) _).alloc (by simp) _).alloc (by simp; omega) _
  have hz : (((w.alloc (.cells #[.int .i64 1, .int .i64 o.who.role, .int .i64 o.who.why, .int .i64 o.who.time, .slice B1 o.rules.length e1, .string o.r.id, .int .i64 o.r.cats, .slice B2 o.r.fields.length e2, .slice B3 o.r.refs.length e3, .string o.id, .string o.f.key, .string o.f.val] 40)).alloc (.cells #[.int .i64 0, .slice none 0 0, .slice none 0 0, .slice none 0 0] 45)).alloc (.cells #[.int .i64 0, .slice none 0 0, .slice none 0 0, .slice none 0 0] 45)).heap.size = w.heap.size + 1 + 1 + 1 := by simp
  have hb1 := (Bk.made (w.alloc (.cells #[.int .i64 1, .int .i64 o.who.role, .int .i64 o.who.why, .int .i64 o.who.time, .slice B1 o.rules.length e1, .string o.r.id, .int .i64 o.r.cats, .slice B2 o.r.fields.length e2, .slice B3 o.r.refs.length e3, .string o.id, .string o.f.key, .string o.f.val] 40)) [.int .i64 0, .slice none 0 0, .slice none 0 0, .slice none 0 0] 45).alloc (.cells #[.int .i64 0, .slice none 0 0, .slice none 0 0, .slice none 0 0] 45)
  have hb2 := Bk.made ((w.alloc (.cells #[.int .i64 1, .int .i64 o.who.role, .int .i64 o.who.why, .int .i64 o.who.time, .slice B1 o.rules.length e1, .string o.r.id, .int .i64 o.r.cats, .slice B2 o.r.fields.length e2, .slice B3 o.r.refs.length e3, .string o.id, .string o.f.key, .string o.f.val] 40)).alloc (.cells #[.int .i64 0, .slice none 0 0, .slice none 0 0, .slice none 0 0] 45)) [.int .i64 0, .slice none 0 0, .slice none 0 0, .slice none 0 0] 45
  rw [show (w.alloc (.cells #[.int .i64 1, .int .i64 o.who.role, .int .i64 o.who.why, .int .i64 o.who.time, .slice B1 o.rules.length e1, .string o.r.id, .int .i64 o.r.cats, .slice B2 o.r.fields.length e2, .slice B3 o.r.refs.length e3, .string o.id, .string o.f.key, .string o.f.val] 40)).heap.size = w.heap.size + 1 by simp] at hb1
  rw [show ((w.alloc (.cells #[.int .i64 1, .int .i64 o.who.role, .int .i64 o.who.why, .int .i64 o.who.time, .slice B1 o.rules.length e1, .string o.r.id, .int .i64 o.r.cats, .slice B2 o.r.fields.length e2, .slice B3 o.r.refs.length e3, .string o.id, .string o.f.key, .string o.f.val] 40)).alloc (.cells #[.int .i64 0, .slice none 0 0, .slice none 0 0, .slice none 0 0] 45)).heap.size = w.heap.size + 1 + 1 by simp] at hb2
  have HS := Aside.mk ((h.more (F' := fun k => F k ∧ k < w.heap.size) fun k hk hl => ⟨hk, hl⟩).below hb0)
  have HR := Aside.mk (And.intro hf.1 ((hf.mono (ok' := fun k => ok1 k ∧ k < w.heap.size) fun k h1 h2 => ⟨h1, h2⟩).below hb0))
  have HQ0 := Aside.mk (((Bk.made w [.int .i64 1, .int .i64 o.who.role, .int .i64 o.who.why, .int .i64 o.who.time, .slice B1 o.rules.length e1, .string o.r.id, .int .i64 o.r.cats, .slice B2 o.r.fields.length e2, .slice B3 o.r.refs.length e3, .string o.id, .string o.f.key, .string o.f.val] 40).alloc (.cells #[.int .i64 0, .slice none 0 0, .slice none 0 0, .slice none 0 0] 45)).alloc (.cells #[.int .i64 0, .slice none 0 0, .slice none 0 0, .slice none 0 0] 45))
  have HQ1 := Aside.mk hb1
  have HQ2 := Aside.mk hb2
  have HZ := Aside.mk hz
  have HB := Aside.mk hb0
  have HGL := Aside.mk hgl
  have HE := Aside.mk h0
  have HLN := Aside.mk (show o.rules.length * 48 ≤ 140737488355328 by have := (rules_ok h0).1; omega)
  have HFF := Aside.mk hF
  clear h hf hb0 hb1 hb2 hz hgl h0 hF
  unfold opVal
  rw [hk]
  go_enter Tryz.func12, Tryz.ntmps12
  go_wp2_with fail
  refine (ruleCheck _ _ o.rules _ _ HR.out.2 HR.out.1).mono ?_
  rw [HE.out]
  rintro e w1 ⟨rfl, hb⟩
  have q0 : w1.cell? ⟨w.heap.size, 4, none⟩ = some (.slice B1 o.rules.length e1) := (HQ0.out.below hb).cell 4
  have q1 := (HQ1.out.below hb).four
  have q2 := (HQ2.out.below hb).four
  have HP1 := Aside.mk ((HQ1.out.below hb).other (o := 0) (show w.heap.size + 1 ≠ w.heap.size + 1 + 1 by omega) (.int .i64 0))
  have HP2 := Aside.mk ((HQ2.out.below hb).set 0 (.int .i64 0))
  have HS1 := Aside.mk ((HS.out.below hb).move (w' := w1.setCell ⟨w.heap.size + 1 + 1, 0, none⟩ (.int .i64 0)) (Below.heap_setCell _ _ _ g (by have := HGL.out; show g ≠ w.heap.size + 1 + 1; omega)) fun k hk _ => Below.heap_setCell _ _ _ k (by have := hk.2; show k ≠ w.heap.size + 1 + 1; omega))
  have HR1 := Aside.mk ((HR.out.2.below hb).move (w1 := w1.setCell ⟨w.heap.size + 1 + 1, 0, none⟩ (.int .i64 0)) fun k hk _ => Below.heap_setCell _ _ _ k (by have := hk.2; show k ≠ w.heap.size + 1 + 1; omega))
  have HG1 := Aside.mk (grown_new (below_grown (below_step HB.out hb) (some g)) (show w.heap.size ≤ w.heap.size + 1 + 1 by omega) 0 (.int .i64 0))
  clear hb
  go_wp2_with fail
  refine (cloneR _ _ o.rules _ _ HR1.out HLN.out).mono ?_
  rintro e w2 ⟨v, rfl, ho, hb⟩
  have hs := (own_rul ho).sl
  have hsz := HG1.out.size
  have HV := Aside.mk (hs.mono (ok' := fun k => (F k ∧ k < w.heap.size) ∨ (w.heap.size ≤ k ∧ k ≠ g ∧ k ≠ w.heap.size + 1)) fun k hk _ => .inr (hk.elim False.elim fun h => by
    have h1 := (ho.lt k h).1
    have h2 := HP1.out.lt
    have h3 := HGL.out
    omega))
  have p1 := (HP1.out.below hb).four
  have p2 := (HP2.out.below hb).four
  have HS2 := Aside.mk ((HS1.out.below hb).more (F' := fun k => (F k ∧ k < w.heap.size) ∨ (w.heap.size ≤ k ∧ k ≠ g ∧ k ≠ w.heap.size + 1)) fun k hk _ => .inl hk)
  have HG2 := Aside.mk (HG1.out.trans (below_grown hb (some g)))
  obtain ⟨_, _, _, _, _, _, _, _, hbk, _⟩ := HS2.out
  have p3 := hbk.four
  obtain ⟨X, d, rfl⟩ := Sl.form hs
  clear hs ho hb hbk hsz q0 q1 q2
  have n1 : w.heap.size + 1 + 1 ≠ g := by have := HGL.out; omega
  have n2 : g ≠ w.heap.size + 1 + 1 := fun e => n1 e.symm
  have n3 : w.heap.size + 1 ≠ g := by have := HGL.out; omega
  have n4 : g ≠ w.heap.size + 1 := fun e => n3 e.symm
  go_wp2_with fail
  refine bodyPost_ret (v := .agg #[.int .i64 0, .slice none 0 0, .slice none 0 0, .slice none 0 0]) ?_ rfl ⟨rfl, ?_, ?_⟩
  · simp [results, Tryz.results12, go_sem, p1]
  · refine (SrvIs.move (HS2.out.setR (fun k hk => hk.elim (fun h => HFF.out k h.1) fun h => h.2.1) HV.out) (sets4 (by have := HGL.out; omega)) fun k hk _ => sets4 ?_).more fun k hk _ => hk.imp (fun h => h.1) fun h => h.1
    have := HGL.out
    rcases hk with hk | hk
    · have := hk.2; omega
    · exact hk.2.2
  · exact grown_new (grown_new (grown_new (grown_new (HG2.out.trans (grown_set _ _ _ _)) (by omega) _ _) (by omega) _ _) (by omega) _ _) (by omega) _ _
end Go.Proofs.WK
namespace Go.Proofs.WK
open Go.RowKit Rp
theorem look_heap {w : World} {a b k : Nat} {x u c d e f : Value} {j : Nat} (ha : k ≠ a) (hb : k ≠ b) : ((((((w.setCell ⟨b, j, none⟩ x).setCell ⟨b, 0, none⟩ u).setCell ⟨a, 0, none⟩ c).setCell ⟨a, 1, none⟩ d).setCell ⟨a, 2, none⟩ e).setCell ⟨a, 3, none⟩ f).heap[k]? = w.heap[k]? := by
  rw [told_heap ha hb]
  exact Below.heap_setCell _ _ _ k hb
theorem look_below {w w1 : World} {a b : Nat} {x u c d e f : Value} {j : Nat} (h : Below w.heap.size w w1) (ha : w.heap.size ≤ a) (hb : w.heap.size ≤ b) : Below w.heap.size w ((((((w1.setCell ⟨b, j, none⟩ x).setCell ⟨b, 0, none⟩ u).setCell ⟨a, 0, none⟩ c).setCell ⟨a, 1, none⟩ d).setCell ⟨a, 2, none⟩ e).setCell ⟨a, 3, none⟩ f) :=
  below_set (below_set (below_set (below_set (below_set (below_set h hb _) hb _) ha _) ha _) ha _) ha _
theorem tell_below {w w1 : World} {a b : Nat} {u c d e f : Value} (h : Below w.heap.size w w1) (ha : w.heap.size ≤ a) (hb : w.heap.size ≤ b) : Below w.heap.size w (((((w1.setCell ⟨b, 0, none⟩ u).setCell ⟨a, 0, none⟩ c).setCell ⟨a, 1, none⟩ d).setCell ⟨a, 2, none⟩ e).setCell ⟨a, 3, none⟩ f) :=
  below_set (below_set (below_set (below_set (below_set h hb _) ha _) ha _) ha _) ha _
set_option maxHeartbeats 4000000 in
set_option maxRecDepth 100000 in
theorem doGet_no (g : Nat) (F : Nat → Prop) (s : Srv) (o : OpV) (hk : o.kind = 4) (B1 : Option Addr) (e1 : Nat) (B2 : Option Addr) (e2 : Nat) (B3 : Option Addr) (e3 : Nat) (w : World) (h : SrvIs w g F s) (h0 : ¬ mineE s o.who = 0) :
    Calls Tryz.prog 12 #[.pointer (some ⟨g, 0, none⟩), opVal o B1 e1 B2 e2 B3 e3] w fun e w' => e = .returned (.agg #[.int .i64 (mineE s o.who), .slice none 0 0, .slice none 0 0, .slice none 0 0]) ∧ Below w.heap.size w w' := by
  have hb0 : Below w.heap.size w (((w.alloc (.cells #[.int .i64 4, .int .i64 o.who.role, .int .i64 o.who.why, .int .i64 o.who.time, .slice B1 o.rules.length e1, .string o.r.id, .int .i64 o.r.cats, .slice B2 o.r.fields.length e2, .slice B3 o.r.refs.length e3, .string o.id, .string o.f.key, .string o.f.val] 40)).alloc (.cells #[.int .i64 0, .slice none 0 0, .slice none 0 0, .slice none 0 0] 45)).alloc (.cells #[.int .i64 0, .slice none 0 0, .slice none 0 0, .slice none 0 0] 45)) := (((Below.refl _ _).alloc (Nat.le_refl _) _).alloc (by simp) _).alloc (by simp; omega) _
  have hz : (((w.alloc (.cells #[.int .i64 4, .int .i64 o.who.role, .int .i64 o.who.why, .int .i64 o.who.time, .slice B1 o.rules.length e1, .string o.r.id, .int .i64 o.r.cats, .slice B2 o.r.fields.length e2, .slice B3 o.r.refs.length e3, .string o.id, .string o.f.key, .string o.f.val] 40)).alloc (.cells #[.int .i64 0, .slice none 0 0, .slice none 0 0, .slice none 0 0] 45)).alloc (.cells #[.int .i64 0, .slice none 0 0, .slice none 0 0, .slice none 0 0] 45)).heap.size = w.heap.size + 1 + 1 + 1 := by simp
  have hb1 := (Bk.made (w.alloc (.cells #[.int .i64 4, .int .i64 o.who.role, .int .i64 o.who.why, .int .i64 o.who.time, .slice B1 o.rules.length e1, .string o.r.id, .int .i64 o.r.cats, .slice B2 o.r.fields.length e2, .slice B3 o.r.refs.length e3, .string o.id, .string o.f.key, .string o.f.val] 40)) [.int .i64 0, .slice none 0 0, .slice none 0 0, .slice none 0 0] 45).alloc (.cells #[.int .i64 0, .slice none 0 0, .slice none 0 0, .slice none 0 0] 45)
  have hb2 := Bk.made ((w.alloc (.cells #[.int .i64 4, .int .i64 o.who.role, .int .i64 o.who.why, .int .i64 o.who.time, .slice B1 o.rules.length e1, .string o.r.id, .int .i64 o.r.cats, .slice B2 o.r.fields.length e2, .slice B3 o.r.refs.length e3, .string o.id, .string o.f.key, .string o.f.val] 40)).alloc (.cells #[.int .i64 0, .slice none 0 0, .slice none 0 0, .slice none 0 0] 45)) [.int .i64 0, .slice none 0 0, .slice none 0 0, .slice none 0 0] 45
  rw [show (w.alloc (.cells #[.int .i64 4, .int .i64 o.who.role, .int .i64 o.who.why, .int .i64 o.who.time, .slice B1 o.rules.length e1, .string o.r.id, .int .i64 o.r.cats, .slice B2 o.r.fields.length e2, .slice B3 o.r.refs.length e3, .string o.id, .string o.f.key, .string o.f.val] 40)).heap.size = w.heap.size + 1 by simp] at hb1
  rw [show ((w.alloc (.cells #[.int .i64 4, .int .i64 o.who.role, .int .i64 o.who.why, .int .i64 o.who.time, .slice B1 o.rules.length e1, .string o.r.id, .int .i64 o.r.cats, .slice B2 o.r.fields.length e2, .slice B3 o.r.refs.length e3, .string o.id, .string o.f.key, .string o.f.val] 40)).alloc (.cells #[.int .i64 0, .slice none 0 0, .slice none 0 0, .slice none 0 0] 45)).heap.size = w.heap.size + 1 + 1 by simp] at hb2
  have HS := Aside.mk (h.below hb0)
  have HQ0 := Aside.mk (((Bk.made w [.int .i64 4, .int .i64 o.who.role, .int .i64 o.who.why, .int .i64 o.who.time, .slice B1 o.rules.length e1, .string o.r.id, .int .i64 o.r.cats, .slice B2 o.r.fields.length e2, .slice B3 o.r.refs.length e3, .string o.id, .string o.f.key, .string o.f.val] 40).alloc (.cells #[.int .i64 0, .slice none 0 0, .slice none 0 0, .slice none 0 0] 45)).alloc (.cells #[.int .i64 0, .slice none 0 0, .slice none 0 0, .slice none 0 0] 45))
  have HQ1 := Aside.mk hb1
  have HQ2 := Aside.mk hb2
  have HZ := Aside.mk hz
  have HB := Aside.mk hb0
  clear h hb0 hb1 hb2 hz
  obtain ⟨me, hme⟩ : ∃ me, mineE s o.who = me := ⟨_, rfl⟩
  have HME := Aside.mk hme
  rw [hme] at h0
  rw [hme]
  have g3 : (me != 0) = true := by simp [h0]
  clear h0 hme
  unfold opVal
  rw [hk]
  go_enter Tryz.func12, Tryz.ntmps12
  go_wp2_with fail
  refine (serverPart g F s o.who _ HS.out).mono ?_
  rw [HME.out]
  rintro e w1 ⟨v, rfl, sl, hb⟩
  obtain ⟨X, d, rfl⟩ := Sl.form sl
  have q0 : w1.cell? ⟨w.heap.size, 0, none⟩ = some (.int .i64 4) := (HQ0.out.below hb).cell 0
  have q1 := (HQ1.out.below hb).four
  have q2 := (HQ2.out.below hb).four
  have HB1 := Aside.mk (below_step HB.out hb)
  clear hb sl
  go_wp2_with fail
  refine bodyPost_ret (v := .agg #[.int .i64 me, .slice none 0 0, .slice none 0 0, .slice none 0 0]) ?_ rfl ⟨rfl, tell_below HB1.out (by omega) (by omega)⟩
  simp [results, Tryz.results12, go_sem, q1]
set_option maxHeartbeats 4000000 in
set_option maxRecDepth 100000 in
theorem doHist_no (g : Nat) (F : Nat → Prop) (s : Srv) (o : OpV) (hk : o.kind = 6) (B1 : Option Addr) (e1 : Nat) (B2 : Option Addr) (e2 : Nat) (B3 : Option Addr) (e3 : Nat) (w : World) (h : SrvIs w g F s) (h0 : ¬ mineE s o.who = 0) :
    Calls Tryz.prog 12 #[.pointer (some ⟨g, 0, none⟩), opVal o B1 e1 B2 e2 B3 e3] w fun e w' => e = .returned (.agg #[.int .i64 (mineE s o.who), .slice none 0 0, .slice none 0 0, .slice none 0 0]) ∧ Below w.heap.size w w' := by
  have hb0 : Below w.heap.size w (((w.alloc (.cells #[.int .i64 6, .int .i64 o.who.role, .int .i64 o.who.why, .int .i64 o.who.time, .slice B1 o.rules.length e1, .string o.r.id, .int .i64 o.r.cats, .slice B2 o.r.fields.length e2, .slice B3 o.r.refs.length e3, .string o.id, .string o.f.key, .string o.f.val] 40)).alloc (.cells #[.int .i64 0, .slice none 0 0, .slice none 0 0, .slice none 0 0] 45)).alloc (.cells #[.int .i64 0, .slice none 0 0, .slice none 0 0, .slice none 0 0] 45)) := (((Below.refl _ _).alloc (Nat.le_refl _) _).alloc (by simp) _).alloc (by simp; omega) _
  have hz : (((w.alloc (.cells #[.int .i64 6, .int .i64 o.who.role, .int .i64 o.who.why, .int .i64 o.who.time, .slice B1 o.rules.length e1, .string o.r.id, .int .i64 o.r.cats, .slice B2 o.r.fields.length e2, .slice B3 o.r.refs.length e3, .string o.id, .string o.f.key, .string o.f.val] 40)).alloc (.cells #[.int .i64 0, .slice none 0 0, .slice none 0 0, .slice none 0 0] 45)).alloc (.cells #[.int .i64 0, .slice none 0 0, .slice none 0 0, .slice none 0 0] 45)).heap.size = w.heap.size + 1 + 1 + 1 := by simp
  have hb1 := (Bk.made (w.alloc (.cells #[.int .i64 6, .int .i64 o.who.role, .int .i64 o.who.why, .int .i64 o.who.time, .slice B1 o.rules.length e1, .string o.r.id, .int .i64 o.r.cats, .slice B2 o.r.fields.length e2, .slice B3 o.r.refs.length e3, .string o.id, .string o.f.key, .string o.f.val] 40)) [.int .i64 0, .slice none 0 0, .slice none 0 0, .slice none 0 0] 45).alloc (.cells #[.int .i64 0, .slice none 0 0, .slice none 0 0, .slice none 0 0] 45)
  have hb2 := Bk.made ((w.alloc (.cells #[.int .i64 6, .int .i64 o.who.role, .int .i64 o.who.why, .int .i64 o.who.time, .slice B1 o.rules.length e1, .string o.r.id, .int .i64 o.r.cats, .slice B2 o.r.fields.length e2, .slice B3 o.r.refs.length e3, .string o.id, .string o.f.key, .string o.f.val] 40)).alloc (.cells #[.int .i64 0, .slice none 0 0, .slice none 0 0, .slice none 0 0] 45)) [.int .i64 0, .slice none 0 0, .slice none 0 0, .slice none 0 0] 45
  rw [show (w.alloc (.cells #[.int .i64 6, .int .i64 o.who.role, .int .i64 o.who.why, .int .i64 o.who.time, .slice B1 o.rules.length e1, .string o.r.id, .int .i64 o.r.cats, .slice B2 o.r.fields.length e2, .slice B3 o.r.refs.length e3, .string o.id, .string o.f.key, .string o.f.val] 40)).heap.size = w.heap.size + 1 by simp] at hb1
  rw [show ((w.alloc (.cells #[.int .i64 6, .int .i64 o.who.role, .int .i64 o.who.why, .int .i64 o.who.time, .slice B1 o.rules.length e1, .string o.r.id, .int .i64 o.r.cats, .slice B2 o.r.fields.length e2, .slice B3 o.r.refs.length e3, .string o.id, .string o.f.key, .string o.f.val] 40)).alloc (.cells #[.int .i64 0, .slice none 0 0, .slice none 0 0, .slice none 0 0] 45)).heap.size = w.heap.size + 1 + 1 by simp] at hb2
  have HS := Aside.mk (h.below hb0)
  have HQ0 := Aside.mk (((Bk.made w [.int .i64 6, .int .i64 o.who.role, .int .i64 o.who.why, .int .i64 o.who.time, .slice B1 o.rules.length e1, .string o.r.id, .int .i64 o.r.cats, .slice B2 o.r.fields.length e2, .slice B3 o.r.refs.length e3, .string o.id, .string o.f.key, .string o.f.val] 40).alloc (.cells #[.int .i64 0, .slice none 0 0, .slice none 0 0, .slice none 0 0] 45)).alloc (.cells #[.int .i64 0, .slice none 0 0, .slice none 0 0, .slice none 0 0] 45))
  have HQ1 := Aside.mk hb1
  have HQ2 := Aside.mk hb2
  have HZ := Aside.mk hz
  have HB := Aside.mk hb0
  clear h hb0 hb1 hb2 hz
  obtain ⟨me, hme⟩ : ∃ me, mineE s o.who = me := ⟨_, rfl⟩
  have HME := Aside.mk hme
  rw [hme] at h0
  rw [hme]
  have g3 : (me != 0) = true := by simp [h0]
  clear h0 hme
  unfold opVal
  rw [hk]
  go_enter Tryz.func12, Tryz.ntmps12
  go_wp2_with fail
  refine (serverPart g F s o.who _ HS.out).mono ?_
  rw [HME.out]
  rintro e w1 ⟨v, rfl, sl, hb⟩
  obtain ⟨X, d, rfl⟩ := Sl.form sl
  have q0 : w1.cell? ⟨w.heap.size, 0, none⟩ = some (.int .i64 6) := (HQ0.out.below hb).cell 0
  have q1 := (HQ1.out.below hb).four
  have q2 := (HQ2.out.below hb).four
  have HB1 := Aside.mk (below_step HB.out hb)
  clear hb sl
  go_wp2_with fail
  refine bodyPost_ret (v := .agg #[.int .i64 me, .slice none 0 0, .slice none 0 0, .slice none 0 0]) ?_ rfl ⟨rfl, tell_below HB1.out (by omega) (by omega)⟩
  simp [results, Tryz.results12, go_sem, q1]
set_option maxHeartbeats 4000000 in
set_option maxRecDepth 100000 in
theorem doFind_no (g : Nat) (F : Nat → Prop) (s : Srv) (o : OpV) (hk : o.kind = 5) (B1 : Option Addr) (e1 : Nat) (B2 : Option Addr) (e2 : Nat) (B3 : Option Addr) (e3 : Nat) (w : World) (h : SrvIs w g F s) (h0 : ¬ mineE s o.who = 0) :
    Calls Tryz.prog 12 #[.pointer (some ⟨g, 0, none⟩), opVal o B1 e1 B2 e2 B3 e3] w fun e w' => e = .returned (.agg #[.int .i64 (mineE s o.who), .slice none 0 0, .slice none 0 0, .slice none 0 0]) ∧ Below w.heap.size w w' := by
  have hb0 : Below w.heap.size w (((w.alloc (.cells #[.int .i64 5, .int .i64 o.who.role, .int .i64 o.who.why, .int .i64 o.who.time, .slice B1 o.rules.length e1, .string o.r.id, .int .i64 o.r.cats, .slice B2 o.r.fields.length e2, .slice B3 o.r.refs.length e3, .string o.id, .string o.f.key, .string o.f.val] 40)).alloc (.cells #[.int .i64 0, .slice none 0 0, .slice none 0 0, .slice none 0 0] 45)).alloc (.cells #[.int .i64 0, .slice none 0 0, .slice none 0 0, .slice none 0 0] 45)) := (((Below.refl _ _).alloc (Nat.le_refl _) _).alloc (by simp) _).alloc (by simp; omega) _
  have hz : (((w.alloc (.cells #[.int .i64 5, .int .i64 o.who.role, .int .i64 o.who.why, .int .i64 o.who.time, .slice B1 o.rules.length e1, .string o.r.id, .int .i64 o.r.cats, .slice B2 o.r.fields.length e2, .slice B3 o.r.refs.length e3, .string o.id, .string o.f.key, .string o.f.val] 40)).alloc (.cells #[.int .i64 0, .slice none 0 0, .slice none 0 0, .slice none 0 0] 45)).alloc (.cells #[.int .i64 0, .slice none 0 0, .slice none 0 0, .slice none 0 0] 45)).heap.size = w.heap.size + 1 + 1 + 1 := by simp
  have hb1 := (Bk.made (w.alloc (.cells #[.int .i64 5, .int .i64 o.who.role, .int .i64 o.who.why, .int .i64 o.who.time, .slice B1 o.rules.length e1, .string o.r.id, .int .i64 o.r.cats, .slice B2 o.r.fields.length e2, .slice B3 o.r.refs.length e3, .string o.id, .string o.f.key, .string o.f.val] 40)) [.int .i64 0, .slice none 0 0, .slice none 0 0, .slice none 0 0] 45).alloc (.cells #[.int .i64 0, .slice none 0 0, .slice none 0 0, .slice none 0 0] 45)
  have hb2 := Bk.made ((w.alloc (.cells #[.int .i64 5, .int .i64 o.who.role, .int .i64 o.who.why, .int .i64 o.who.time, .slice B1 o.rules.length e1, .string o.r.id, .int .i64 o.r.cats, .slice B2 o.r.fields.length e2, .slice B3 o.r.refs.length e3, .string o.id, .string o.f.key, .string o.f.val] 40)).alloc (.cells #[.int .i64 0, .slice none 0 0, .slice none 0 0, .slice none 0 0] 45)) [.int .i64 0, .slice none 0 0, .slice none 0 0, .slice none 0 0] 45
  rw [show (w.alloc (.cells #[.int .i64 5, .int .i64 o.who.role, .int .i64 o.who.why, .int .i64 o.who.time, .slice B1 o.rules.length e1, .string o.r.id, .int .i64 o.r.cats, .slice B2 o.r.fields.length e2, .slice B3 o.r.refs.length e3, .string o.id, .string o.f.key, .string o.f.val] 40)).heap.size = w.heap.size + 1 by simp] at hb1
  rw [show ((w.alloc (.cells #[.int .i64 5, .int .i64 o.who.role, .int .i64 o.who.why, .int .i64 o.who.time, .slice B1 o.rules.length e1, .string o.r.id, .int .i64 o.r.cats, .slice B2 o.r.fields.length e2, .slice B3 o.r.refs.length e3, .string o.id, .string o.f.key, .string o.f.val] 40)).alloc (.cells #[.int .i64 0, .slice none 0 0, .slice none 0 0, .slice none 0 0] 45)).heap.size = w.heap.size + 1 + 1 by simp] at hb2
  have HS := Aside.mk (h.below hb0)
  have HQ0 := Aside.mk (((Bk.made w [.int .i64 5, .int .i64 o.who.role, .int .i64 o.who.why, .int .i64 o.who.time, .slice B1 o.rules.length e1, .string o.r.id, .int .i64 o.r.cats, .slice B2 o.r.fields.length e2, .slice B3 o.r.refs.length e3, .string o.id, .string o.f.key, .string o.f.val] 40).alloc (.cells #[.int .i64 0, .slice none 0 0, .slice none 0 0, .slice none 0 0] 45)).alloc (.cells #[.int .i64 0, .slice none 0 0, .slice none 0 0, .slice none 0 0] 45))
  have HQ1 := Aside.mk hb1
  have HQ2 := Aside.mk hb2
  have HZ := Aside.mk hz
  have HB := Aside.mk hb0
  clear h hb0 hb1 hb2 hz
  obtain ⟨me, hme⟩ : ∃ me, mineE s o.who = me := ⟨_, rfl⟩
  have HME := Aside.mk hme
  rw [hme] at h0
  rw [hme]
  have g3 : (me != 0) = true := by simp [h0]
  clear h0 hme
  unfold opVal
  rw [hk]
  go_enter Tryz.func12, Tryz.ntmps12
  go_wp2_with fail
  refine (serverPart g F s o.who _ HS.out).mono ?_
  rw [HME.out]
  rintro e w1 ⟨v, rfl, sl, hb⟩
  obtain ⟨X, d, rfl⟩ := Sl.form sl
  have q0 : w1.cell? ⟨w.heap.size, 0, none⟩ = some (.int .i64 5) := (HQ0.out.below hb).cell 0
  have q1 := (HQ1.out.below hb).four
  have q2 := (HQ2.out.below hb).four
  have HB1 := Aside.mk (below_step HB.out hb)
  clear hb sl
  go_wp2_with fail
  refine bodyPost_ret (v := .agg #[.int .i64 me, .slice none 0 0, .slice none 0 0, .slice none 0 0]) ?_ rfl ⟨rfl, tell_below HB1.out (by omega) (by omega)⟩
  simp [results, Tryz.results12, go_sem, q1]
set_option maxHeartbeats 4000000 in
set_option maxRecDepth 100000 in
theorem doGet_ok (g : Nat) (F : Nat → Prop) (s : Srv) (o : OpV) (hk : o.kind = 4) (B1 : Option Addr) (e1 : Nat) (B2 : Option Addr) (e2 : Nat) (B3 : Option Addr) (e3 : Nat) (w : World) (h : SrvIs w g F s) (h0 : mineE s o.who = 0) :
    Calls Tryz.prog 12 #[.pointer (some ⟨g, 0, none⟩), opVal o B1 e1 B2 e2 B3 e3] w fun e w' => ∃ v, e = .returned (.agg #[.int .i64 (getErr (mineV s o.who) o.id), v, .slice none 0 0, .slice none 0 0]) ∧ verR.Sl w' (fun k => w.heap.size ≤ k) v (oneV (mineV s o.who) o.id) ∧ Below w.heap.size w w' := by
  have hb0 : Below w.heap.size w (((w.alloc (.cells #[.int .i64 4, .int .i64 o.who.role, .int .i64 o.who.why, .int .i64 o.who.time, .slice B1 o.rules.length e1, .string o.r.id, .int .i64 o.r.cats, .slice B2 o.r.fields.length e2, .slice B3 o.r.refs.length e3, .string o.id, .string o.f.key, .string o.f.val] 40)).alloc (.cells #[.int .i64 0, .slice none 0 0, .slice none 0 0, .slice none 0 0] 45)).alloc (.cells #[.int .i64 0, .slice none 0 0, .slice none 0 0, .slice none 0 0] 45)) := (((Below.refl _ _).alloc (Nat.le_refl _) _).alloc (by simp) _).alloc (by simp; omega) _
  have hz : (((w.alloc (.cells #[.int .i64 4, .int .i64 o.who.role, .int .i64 o.who.why, .int .i64 o.who.time, .slice B1 o.rules.length e1, .string o.r.id, .int .i64 o.r.cats, .slice B2 o.r.fields.length e2, .slice B3 o.r.refs.length e3, .string o.id, .string o.f.key, .string o.f.val] 40)).alloc (.cells #[.int .i64 0, .slice none 0 0, .slice none 0 0, .slice none 0 0] 45)).alloc (.cells #[.int .i64 0, .slice none 0 0, .slice none 0 0, .slice none 0 0] 45)).heap.size = w.heap.size + 1 + 1 + 1 := by simp
  have hb1 := (Bk.made (w.alloc (.cells #[.int .i64 4, .int .i64 o.who.role, .int .i64 o.who.why, .int .i64 o.who.time, .slice B1 o.rules.length e1, .string o.r.id, .int .i64 o.r.cats, .slice B2 o.r.fields.length e2, .slice B3 o.r.refs.length e3, .string o.id, .string o.f.key, .string o.f.val] 40)) [.int .i64 0, .slice none 0 0, .slice none 0 0, .slice none 0 0] 45).alloc (.cells #[.int .i64 0, .slice none 0 0, .slice none 0 0, .slice none 0 0] 45)
  have hb2 := Bk.made ((w.alloc (.cells #[.int .i64 4, .int .i64 o.who.role, .int .i64 o.who.why, .int .i64 o.who.time, .slice B1 o.rules.length e1, .string o.r.id, .int .i64 o.r.cats, .slice B2 o.r.fields.length e2, .slice B3 o.r.refs.length e3, .string o.id, .string o.f.key, .string o.f.val] 40)).alloc (.cells #[.int .i64 0, .slice none 0 0, .slice none 0 0, .slice none 0 0] 45)) [.int .i64 0, .slice none 0 0, .slice none 0 0, .slice none 0 0] 45
  rw [show (w.alloc (.cells #[.int .i64 4, .int .i64 o.who.role, .int .i64 o.who.why, .int .i64 o.who.time, .slice B1 o.rules.length e1, .string o.r.id, .int .i64 o.r.cats, .slice B2 o.r.fields.length e2, .slice B3 o.r.refs.length e3, .string o.id, .string o.f.key, .string o.f.val] 40)).heap.size = w.heap.size + 1 by simp] at hb1
  rw [show ((w.alloc (.cells #[.int .i64 4, .int .i64 o.who.role, .int .i64 o.who.why, .int .i64 o.who.time, .slice B1 o.rules.length e1, .string o.r.id, .int .i64 o.r.cats, .slice B2 o.r.fields.length e2, .slice B3 o.r.refs.length e3, .string o.id, .string o.f.key, .string o.f.val] 40)).alloc (.cells #[.int .i64 0, .slice none 0 0, .slice none 0 0, .slice none 0 0] 45)).heap.size = w.heap.size + 1 + 1 by simp] at hb2
  have HS := Aside.mk (h.below hb0)
  have HQ0 := Aside.mk (((Bk.made w [.int .i64 4, .int .i64 o.who.role, .int .i64 o.who.why, .int .i64 o.who.time, .slice B1 o.rules.length e1, .string o.r.id, .int .i64 o.r.cats, .slice B2 o.r.fields.length e2, .slice B3 o.r.refs.length e3, .string o.id, .string o.f.key, .string o.f.val] 40).alloc (.cells #[.int .i64 0, .slice none 0 0, .slice none 0 0, .slice none 0 0] 45)).alloc (.cells #[.int .i64 0, .slice none 0 0, .slice none 0 0, .slice none 0 0] 45))
  have HQ1 := Aside.mk hb1
  have HQ2 := Aside.mk hb2
  have HZ := Aside.mk hz
  have HB := Aside.mk hb0
  clear h hb0 hb1 hb2 hz
  obtain ⟨ml, hml⟩ : ∃ ml, mineV s o.who = ml := ⟨_, rfl⟩
  have HME := Aside.mk h0
  have HML := Aside.mk hml
  rw [hml]
  clear h0 hml
  obtain ⟨xe, hxe⟩ : ∃ xe, getErr ml o.id = xe := ⟨_, rfl⟩
  have HXE := Aside.mk hxe
  rw [hxe]
  clear hxe
  unfold opVal
  rw [hk]
  go_enter Tryz.func12, Tryz.ntmps12
  go_wp2_with fail
  refine (serverPart g F s o.who _ HS.out).mono ?_
  rw [HME.out, HML.out]
  rintro e w1 ⟨v, rfl, sl, hb⟩
  obtain ⟨X, d, rfl, hd, hrow⟩ := sl
  have q0 : w1.cell? ⟨w.heap.size, 0, none⟩ = some (.int .i64 4) := (HQ0.out.below hb).cell 0
  have q9 : w1.cell? ⟨w.heap.size, 9, none⟩ = some (.string o.id) := (HQ0.out.below hb).cell 9
  have q10 : w1.cell? ⟨w.heap.size, 10, none⟩ = some (.string o.f.key) := (HQ0.out.below hb).cell 10
  have q11 : w1.cell? ⟨w.heap.size, 11, none⟩ = some (.string o.f.val) := (HQ0.out.below hb).cell 11
  have HQ11 := Aside.mk (HQ1.out.below hb)
  have HQ21 := Aside.mk (HQ2.out.below hb)
  have HB1 := Aside.mk (below_step HB.out hb)
  have HR := Aside.mk hrow
  have HZ1 : Aside (w.heap.size + 1 + 1 + 1 ≤ w1.heap.size) := ⟨by have := hb.size; have := HZ.out; omega⟩
  clear hb hrow
  go_wp2_with fail
  refine (serverOne X d ml o.id _ _ HR.out hd).mono ?_
  rw [HXE.out]
  rintro e w2 ⟨v2, rfl, s2, hb⟩
  have HB2 := Aside.mk (below_step HB1.out hb)
  have q1 := (HQ11.out.below hb).four
  have q2 := (HQ21.out.below hb).four
  have HV := Aside.mk s2
  obtain ⟨Y, dy, rfl⟩ := Sl.form s2
  clear s2 hb q0 q9 q10 q11
  go_wp2_with fail
  refine bodyPost_ret (v := .agg #[.int .i64 xe, _, .slice none 0 0, .slice none 0 0]) ?_ rfl ⟨_, rfl, (HV.out.move fun k hk _ => look_heap ?_ ?_).mono fun k hk _ => Nat.le_trans HB1.out.size hk, look_below HB2.out (by omega) (by omega)⟩
  · simp [results, Tryz.results12, go_sem, q1]
  all_goals
    have := HZ1.out
    have hk' : w1.heap.size ≤ k := hk
    omega
set_option maxHeartbeats 4000000 in
set_option maxRecDepth 100000 in
theorem doHist_ok (g : Nat) (F : Nat → Prop) (s : Srv) (o : OpV) (hk : o.kind = 6) (B1 : Option Addr) (e1 : Nat) (B2 : Option Addr) (e2 : Nat) (B3 : Option Addr) (e3 : Nat) (w : World) (h : SrvIs w g F s) (h0 : mineE s o.who = 0) :
    Calls Tryz.prog 12 #[.pointer (some ⟨g, 0, none⟩), opVal o B1 e1 B2 e2 B3 e3] w fun e w' => ∃ v, e = .returned (.agg #[.int .i64 (histErr (mineV s o.who) o.id), v, .slice none 0 0, .slice none 0 0]) ∧ verR.Sl w' (fun k => w.heap.size ≤ k) v (histV (mineV s o.who) o.id) ∧ Below w.heap.size w w' := by
  have hb0 : Below w.heap.size w (((w.alloc (.cells #[.int .i64 6, .int .i64 o.who.role, .int .i64 o.who.why, .int .i64 o.who.time, .slice B1 o.rules.length e1, .string o.r.id, .int .i64 o.r.cats, .slice B2 o.r.fields.length e2, .slice B3 o.r.refs.length e3, .string o.id, .string o.f.key, .string o.f.val] 40)).alloc (.cells #[.int .i64 0, .slice none 0 0, .slice none 0 0, .slice none 0 0] 45)).alloc (.cells #[.int .i64 0, .slice none 0 0, .slice none 0 0, .slice none 0 0] 45)) := (((Below.refl _ _).alloc (Nat.le_refl _) _).alloc (by simp) _).alloc (by simp; omega) _
  have hz : (((w.alloc (.cells #[.int .i64 6, .int .i64 o.who.role, .int .i64 o.who.why, .int .i64 o.who.time, .slice B1 o.rules.length e1, .string o.r.id, .int .i64 o.r.cats, .slice B2 o.r.fields.length e2, .slice B3 o.r.refs.length e3, .string o.id, .string o.f.key, .string o.f.val] 40)).alloc (.cells #[.int .i64 0, .slice none 0 0, .slice none 0 0, .slice none 0 0] 45)).alloc (.cells #[.int .i64 0, .slice none 0 0, .slice none 0 0, .slice none 0 0] 45)).heap.size = w.heap.size + 1 + 1 + 1 := by simp
  have hb1 := (Bk.made (w.alloc (.cells #[.int .i64 6, .int .i64 o.who.role, .int .i64 o.who.why, .int .i64 o.who.time, .slice B1 o.rules.length e1, .string o.r.id, .int .i64 o.r.cats, .slice B2 o.r.fields.length e2, .slice B3 o.r.refs.length e3, .string o.id, .string o.f.key, .string o.f.val] 40)) [.int .i64 0, .slice none 0 0, .slice none 0 0, .slice none 0 0] 45).alloc (.cells #[.int .i64 0, .slice none 0 0, .slice none 0 0, .slice none 0 0] 45)
  have hb2 := Bk.made ((w.alloc (.cells #[.int .i64 6, .int .i64 o.who.role, .int .i64 o.who.why, .int .i64 o.who.time, .slice B1 o.rules.length e1, .string o.r.id, .int .i64 o.r.cats, .slice B2 o.r.fields.length e2, .slice B3 o.r.refs.length e3, .string o.id, .string o.f.key, .string o.f.val] 40)).alloc (.cells #[.int .i64 0, .slice none 0 0, .slice none 0 0, .slice none 0 0] 45)) [.int .i64 0, .slice none 0 0, .slice none 0 0, .slice none 0 0] 45
  rw [show (w.alloc (.cells #[.int .i64 6, .int .i64 o.who.role, .int .i64 o.who.why, .int .i64 o.who.time, .slice B1 o.rules.length e1, .string o.r.id, .int .i64 o.r.cats, .slice B2 o.r.fields.length e2, .slice B3 o.r.refs.length e3, .string o.id, .string o.f.key, .string o.f.val] 40)).heap.size = w.heap.size + 1 by simp] at hb1
  rw [show ((w.alloc (.cells #[.int .i64 6, .int .i64 o.who.role, .int .i64 o.who.why, .int .i64 o.who.time, .slice B1 o.rules.length e1, .string o.r.id, .int .i64 o.r.cats, .slice B2 o.r.fields.length e2, .slice B3 o.r.refs.length e3, .string o.id, .string o.f.key, .string o.f.val] 40)).alloc (.cells #[.int .i64 0, .slice none 0 0, .slice none 0 0, .slice none 0 0] 45)).heap.size = w.heap.size + 1 + 1 by simp] at hb2
  have HS := Aside.mk (h.below hb0)
  have HQ0 := Aside.mk (((Bk.made w [.int .i64 6, .int .i64 o.who.role, .int .i64 o.who.why, .int .i64 o.who.time, .slice B1 o.rules.length e1, .string o.r.id, .int .i64 o.r.cats, .slice B2 o.r.fields.length e2, .slice B3 o.r.refs.length e3, .string o.id, .string o.f.key, .string o.f.val] 40).alloc (.cells #[.int .i64 0, .slice none 0 0, .slice none 0 0, .slice none 0 0] 45)).alloc (.cells #[.int .i64 0, .slice none 0 0, .slice none 0 0, .slice none 0 0] 45))
  have HQ1 := Aside.mk hb1
  have HQ2 := Aside.mk hb2
  have HZ := Aside.mk hz
  have HB := Aside.mk hb0
  clear h hb0 hb1 hb2 hz
  obtain ⟨ml, hml⟩ : ∃ ml, mineV s o.who = ml := ⟨_, rfl⟩
  have HME := Aside.mk h0
  have HML := Aside.mk hml
  rw [hml]
  clear h0 hml
  obtain ⟨xe, hxe⟩ : ∃ xe, histErr ml o.id = xe := ⟨_, rfl⟩
  have HXE := Aside.mk hxe
  rw [hxe]
  clear hxe
  unfold opVal
  rw [hk]
  go_enter Tryz.func12, Tryz.ntmps12
  go_wp2_with fail
  refine (serverPart g F s o.who _ HS.out).mono ?_
  rw [HME.out, HML.out]
  rintro e w1 ⟨v, rfl, sl, hb⟩
  obtain ⟨X, d, rfl, hd, hrow⟩ := sl
  have q0 : w1.cell? ⟨w.heap.size, 0, none⟩ = some (.int .i64 6) := (HQ0.out.below hb).cell 0
  have q9 : w1.cell? ⟨w.heap.size, 9, none⟩ = some (.string o.id) := (HQ0.out.below hb).cell 9
  have q10 : w1.cell? ⟨w.heap.size, 10, none⟩ = some (.string o.f.key) := (HQ0.out.below hb).cell 10
  have q11 : w1.cell? ⟨w.heap.size, 11, none⟩ = some (.string o.f.val) := (HQ0.out.below hb).cell 11
  have HQ11 := Aside.mk (HQ1.out.below hb)
  have HQ21 := Aside.mk (HQ2.out.below hb)
  have HB1 := Aside.mk (below_step HB.out hb)
  have HR := Aside.mk hrow
  have HZ1 : Aside (w.heap.size + 1 + 1 + 1 ≤ w1.heap.size) := ⟨by have := hb.size; have := HZ.out; omega⟩
  clear hb hrow
  go_wp2_with fail
  refine (storeHist X d ml o.id _ _ HR.out hd).mono ?_
  rw [HXE.out]
  rintro e w2 ⟨v2, rfl, s2, hb⟩
  have HB2 := Aside.mk (below_step HB1.out hb)
  have q1 := (HQ11.out.below hb).four
  have q2 := (HQ21.out.below hb).four
  have HV := Aside.mk s2
  obtain ⟨Y, dy, rfl⟩ := Sl.form s2
  clear s2 hb q0 q9 q10 q11
  go_wp2_with fail
  refine bodyPost_ret (v := .agg #[.int .i64 xe, _, .slice none 0 0, .slice none 0 0]) ?_ rfl ⟨_, rfl, (HV.out.move fun k hk _ => look_heap ?_ ?_).mono fun k hk _ => Nat.le_trans HB1.out.size hk, look_below HB2.out (by omega) (by omega)⟩
  · simp [results, Tryz.results12, go_sem, q1]
  all_goals
    have := HZ1.out
    have hk' : w1.heap.size ≤ k := hk
    omega
set_option maxHeartbeats 4000000 in
set_option maxRecDepth 100000 in
theorem doFind_ok (g : Nat) (F : Nat → Prop) (s : Srv) (o : OpV) (hk : o.kind = 5) (B1 : Option Addr) (e1 : Nat) (B2 : Option Addr) (e2 : Nat) (B3 : Option Addr) (e3 : Nat) (w : World) (h : SrvIs w g F s) (h0 : mineE s o.who = 0) :
    Calls Tryz.prog 12 #[.pointer (some ⟨g, 0, none⟩), opVal o B1 e1 B2 e2 B3 e3] w fun e w' => ∃ v, e = .returned (.agg #[.int .i64 (byErr (mineV s o.who) o.f), .slice none 0 0, v, .slice none 0 0]) ∧ str.Sl w' (fun k => w.heap.size ≤ k) v (byV (mineV s o.who) o.f) ∧ Below w.heap.size w w' := by
  have hb0 : Below w.heap.size w (((w.alloc (.cells #[.int .i64 5, .int .i64 o.who.role, .int .i64 o.who.why, .int .i64 o.who.time, .slice B1 o.rules.length e1, .string o.r.id, .int .i64 o.r.cats, .slice B2 o.r.fields.length e2, .slice B3 o.r.refs.length e3, .string o.id, .string o.f.key, .string o.f.val] 40)).alloc (.cells #[.int .i64 0, .slice none 0 0, .slice none 0 0, .slice none 0 0] 45)).alloc (.cells #[.int .i64 0, .slice none 0 0, .slice none 0 0, .slice none 0 0] 45)) := (((Below.refl _ _).alloc (Nat.le_refl _) _).alloc (by simp) _).alloc (by simp; omega) _
  have hz : (((w.alloc (.cells #[.int .i64 5, .int .i64 o.who.role, .int .i64 o.who.why, .int .i64 o.who.time, .slice B1 o.rules.length e1, .string o.r.id, .int .i64 o.r.cats, .slice B2 o.r.fields.length e2, .slice B3 o.r.refs.length e3, .string o.id, .string o.f.key, .string o.f.val] 40)).alloc (.cells #[.int .i64 0, .slice none 0 0, .slice none 0 0, .slice none 0 0] 45)).alloc (.cells #[.int .i64 0, .slice none 0 0, .slice none 0 0, .slice none 0 0] 45)).heap.size = w.heap.size + 1 + 1 + 1 := by simp
  have hb1 := (Bk.made (w.alloc (.cells #[.int .i64 5, .int .i64 o.who.role, .int .i64 o.who.why, .int .i64 o.who.time, .slice B1 o.rules.length e1, .string o.r.id, .int .i64 o.r.cats, .slice B2 o.r.fields.length e2, .slice B3 o.r.refs.length e3, .string o.id, .string o.f.key, .string o.f.val] 40)) [.int .i64 0, .slice none 0 0, .slice none 0 0, .slice none 0 0] 45).alloc (.cells #[.int .i64 0, .slice none 0 0, .slice none 0 0, .slice none 0 0] 45)
  have hb2 := Bk.made ((w.alloc (.cells #[.int .i64 5, .int .i64 o.who.role, .int .i64 o.who.why, .int .i64 o.who.time, .slice B1 o.rules.length e1, .string o.r.id, .int .i64 o.r.cats, .slice B2 o.r.fields.length e2, .slice B3 o.r.refs.length e3, .string o.id, .string o.f.key, .string o.f.val] 40)).alloc (.cells #[.int .i64 0, .slice none 0 0, .slice none 0 0, .slice none 0 0] 45)) [.int .i64 0, .slice none 0 0, .slice none 0 0, .slice none 0 0] 45
  rw [show (w.alloc (.cells #[.int .i64 5, .int .i64 o.who.role, .int .i64 o.who.why, .int .i64 o.who.time, .slice B1 o.rules.length e1, .string o.r.id, .int .i64 o.r.cats, .slice B2 o.r.fields.length e2, .slice B3 o.r.refs.length e3, .string o.id, .string o.f.key, .string o.f.val] 40)).heap.size = w.heap.size + 1 by simp] at hb1
  rw [show ((w.alloc (.cells #[.int .i64 5, .int .i64 o.who.role, .int .i64 o.who.why, .int .i64 o.who.time, .slice B1 o.rules.length e1, .string o.r.id, .int .i64 o.r.cats, .slice B2 o.r.fields.length e2, .slice B3 o.r.refs.length e3, .string o.id, .string o.f.key, .string o.f.val] 40)).alloc (.cells #[.int .i64 0, .slice none 0 0, .slice none 0 0, .slice none 0 0] 45)).heap.size = w.heap.size + 1 + 1 by simp] at hb2
  have HS := Aside.mk (h.below hb0)
  have HQ0 := Aside.mk (((Bk.made w [.int .i64 5, .int .i64 o.who.role, .int .i64 o.who.why, .int .i64 o.who.time, .slice B1 o.rules.length e1, .string o.r.id, .int .i64 o.r.cats, .slice B2 o.r.fields.length e2, .slice B3 o.r.refs.length e3, .string o.id, .string o.f.key, .string o.f.val] 40).alloc (.cells #[.int .i64 0, .slice none 0 0, .slice none 0 0, .slice none 0 0] 45)).alloc (.cells #[.int .i64 0, .slice none 0 0, .slice none 0 0, .slice none 0 0] 45))
  have HQ1 := Aside.mk hb1
  have HQ2 := Aside.mk hb2
  have HZ := Aside.mk hz
  have HB := Aside.mk hb0
  clear h hb0 hb1 hb2 hz
  obtain ⟨ml, hml⟩ : ∃ ml, mineV s o.who = ml := ⟨_, rfl⟩
  have HME := Aside.mk h0
  have HML := Aside.mk hml
  rw [hml]
  clear h0 hml
  obtain ⟨xe, hxe⟩ : ∃ xe, byErr ml o.f = xe := ⟨_, rfl⟩
  have HXE := Aside.mk hxe
  rw [hxe]
  clear hxe
  unfold opVal
  rw [hk]
  go_enter Tryz.func12, Tryz.ntmps12
  go_wp2_with fail
  refine (serverPart g F s o.who _ HS.out).mono ?_
  rw [HME.out, HML.out]
  rintro e w1 ⟨v, rfl, sl, hb⟩
  obtain ⟨X, d, rfl, hd, hrow⟩ := sl
  have q0 : w1.cell? ⟨w.heap.size, 0, none⟩ = some (.int .i64 5) := (HQ0.out.below hb).cell 0
  have q9 : w1.cell? ⟨w.heap.size, 9, none⟩ = some (.string o.id) := (HQ0.out.below hb).cell 9
  have q10 : w1.cell? ⟨w.heap.size, 10, none⟩ = some (.string o.f.key) := (HQ0.out.below hb).cell 10
  have q11 : w1.cell? ⟨w.heap.size, 11, none⟩ = some (.string o.f.val) := (HQ0.out.below hb).cell 11
  have HQ11 := Aside.mk (HQ1.out.below hb)
  have HQ21 := Aside.mk (HQ2.out.below hb)
  have HB1 := Aside.mk (below_step HB.out hb)
  have HR := Aside.mk hrow
  have HZ1 : Aside (w.heap.size + 1 + 1 + 1 ≤ w1.heap.size) := ⟨by have := hb.size; have := HZ.out; omega⟩
  clear hb hrow
  go_wp2_with fail
  refine (findBy X d ml o.f _ _ HR.out hd).mono ?_
  rw [HXE.out]
  rintro e w2 ⟨v2, rfl, s2, hb⟩
  have HB2 := Aside.mk (below_step HB1.out hb)
  have q1 := (HQ11.out.below hb).four
  have q2 := (HQ21.out.below hb).four
  have HV := Aside.mk s2
  obtain ⟨Y, dy, rfl⟩ := Sl.form s2
  clear s2 hb q0 q9 q10 q11
  go_wp2_with fail
  refine bodyPost_ret (v := .agg #[.int .i64 xe, .slice none 0 0, _, .slice none 0 0]) ?_ rfl ⟨_, rfl, (HV.out.move fun k hk _ => look_heap ?_ ?_).mono fun k hk _ => Nat.le_trans HB1.out.size hk, look_below HB2.out (by omega) (by omega)⟩
  · simp [results, Tryz.results12, go_sem, q1]
  all_goals
    have := HZ1.out
    have hk' : w1.heap.size ≤ k := hk
    omega
end Go.Proofs.WK
namespace Go.Proofs.WK
open Go.RowKit Rp
/-- What Do does, and tells: no notes. -/
def DoesTold (w : World) (g : Nat) (F : Nat → Prop) (s : Srv) (o : OpV) (e : Ending) (w' : World) : Prop :=
  ∃ v1 v2, e = .returned (.agg #[.int .i64 (doS s o).2.code, v1, v2, .slice none 0 0]) ∧ verR.Sl w' (fun k => w.heap.size ≤ k) v1 (doS s o).2.vers ∧ str.Sl w' (fun k => w.heap.size ≤ k) v2 (doS s o).2.ids ∧
    SrvIs w' g (fun k => F k ∨ w.heap.size ≤ k) (doS s o).1 ∧ w.grownBy w' (some g)
theorem DoesTold.err {w w' : World} {g : Nat} {F : Nat → Prop} {s : Srv} {o : OpV} {x : Int} (h : (doS s o).2 = .err x) (hs : SrvIs w' g (fun k => F k ∨ w.heap.size ≤ k) (doS s o).1) (hg : w.grownBy w' (some g)) :
    DoesTold w g F s o (.returned (.agg #[.int .i64 x, .slice none 0 0, .slice none 0 0, .slice none 0 0])) w' := by
  refine ⟨.slice none 0 0, .slice none 0 0, ?_, ?_, ?_, hs, hg⟩
  · rw [h]; rfl
  · rw [h]; exact Sl.nil _ _ _
  · rw [h]; exact Sl.nil _ _ _
theorem DoesTold.look {w w' : World} {g : Nat} {F : Nat → Prop} {s : Srv} {o : OpV} (hk : o.kind = 4 ∨ o.kind = 5 ∨ o.kind = 6) (h : SrvIs w g F s) (hb : Below w.heap.size w w') {t : Told} {v1 v2 : Value} (ht : lookT s o = t)
    (h1 : verR.Sl w' (fun k => w.heap.size ≤ k) v1 t.vers) (h2 : str.Sl w' (fun k => w.heap.size ≤ k) v2 t.ids) :
    DoesTold w g F s o (.returned (.agg #[.int .i64 t.code, v1, v2, .slice none 0 0])) w' := by
  have e := doS_look (s := s) hk
  rw [ht] at e
  refine ⟨v1, v2, by rw [e], by rw [e]; exact h1, by rw [e]; exact h2, ?_, below_grown hb _⟩
  rw [e]
  exact (h.below hb).more fun k hk _ => .inl hk
theorem doAll (g : Nat) (F : Nat → Prop) (s : Srv) (o : OpV) (hk : o.kind = 1 ∨ o.kind = 2 ∨ o.kind = 3 ∨ o.kind = 4 ∨ o.kind = 5 ∨ o.kind = 6) (B1 : Option Addr) (e1 : Nat) (B2 : Option Addr) (e2 : Nat) (B3 : Option Addr) (e3 : Nat) (ok1 ok2 ok3 : Nat → Prop) (w : World)
    (h : SrvIs w g F s) (hF : ∀ k, F k → k ≠ g) (hr : rulR.Row w ok1 B1 o.rules) (hf : fldR.Row w ok2 B2 o.r.fields) (hf2 : o.r.fields.length ≤ e2) (hg : str.Row w ok3 B3 o.r.refs) (hg2 : o.r.refs.length ≤ e3) :
    Calls Tryz.prog 12 #[.pointer (some ⟨g, 0, none⟩), opVal o B1 e1 B2 e2 B3 e3] w (DoesTold w g F s o) := by
  rcases hk with hk | hk | hk | hk
  · by_cases h0 : rulesErr o.rules = 0
    · refine (doRules_ok g F s o hk B1 e1 B2 e2 B3 e3 ok1 w h hr h0 hF).mono ?_
      rintro e w' ⟨rfl, hs, hg⟩
      exact .err (by rw [doS_rules hk, h0]) hs hg
    · refine (doRules_bad g F s o hk B1 e1 B2 e2 B3 e3 ok1 w h hr h0).mono ?_
      rintro e w' ⟨rfl, hs, hg⟩
      exact .err (by rw [doS_rules hk]) hs hg
  · refine (doPut g F s o hk B1 e1 B2 e2 B3 e3 ok2 ok3 w h hF hf hf2 hg hg2).mono ?_
    rintro e w' ⟨rfl, hs, hg⟩
    exact .err (by rw [doS_put hk]) hs hg
  · refine (doCut g F s o hk B1 e1 B2 e2 B3 e3 w h hF).mono ?_
    rintro e w' ⟨rfl, hs, hg⟩
    exact .err (by rw [doS_cut hk]) hs hg
  · by_cases h0 : mineE s o.who = 0
    · rcases hk with hk | hk | hk
      · refine (doGet_ok g F s o hk B1 e1 B2 e2 B3 e3 w h h0).mono ?_
        rintro e w' ⟨v, rfl, hs, hb⟩
        exact .look (.inl hk) h hb (t := ⟨getErr (mineV s o.who) o.id, oneV (mineV s o.who) o.id, [], []⟩) (by rw [lookT, if_neg (by simpa using h0), if_pos hk]) hs (Sl.nil _ _ _)
      · refine (doFind_ok g F s o hk B1 e1 B2 e2 B3 e3 w h h0).mono ?_
        rintro e w' ⟨v, rfl, hs, hb⟩
        exact .look (.inr (.inl hk)) h hb (t := ⟨byErr (mineV s o.who) o.f, [], byV (mineV s o.who) o.f, []⟩) (by rw [lookT, if_neg (by simpa using h0), if_neg (by omega), if_neg (by omega)]) (Sl.nil _ _ _) hs
      · refine (doHist_ok g F s o hk B1 e1 B2 e2 B3 e3 w h h0).mono ?_
        rintro e w' ⟨v, rfl, hs, hb⟩
        exact .look (.inr (.inr hk)) h hb (t := ⟨histErr (mineV s o.who) o.id, histV (mineV s o.who) o.id, [], []⟩) (by rw [lookT, if_neg (by simpa using h0), if_neg (by omega), if_pos hk]) hs (Sl.nil _ _ _)
    · have ht : lookT s o = .err (mineE s o.who) := by rw [lookT, if_pos h0]
      rcases hk with hk | hk | hk
      · refine (doGet_no g F s o hk B1 e1 B2 e2 B3 e3 w h h0).mono ?_
        rintro e w' ⟨rfl, hb⟩
        exact .look (.inl hk) h hb ht (Sl.nil _ _ _) (Sl.nil _ _ _)
      · refine (doFind_no g F s o hk B1 e1 B2 e2 B3 e3 w h h0).mono ?_
        rintro e w' ⟨rfl, hb⟩
        exact .look (.inr (.inl hk)) h hb ht (Sl.nil _ _ _) (Sl.nil _ _ _)
      · refine (doHist_no g F s o hk B1 e1 B2 e2 B3 e3 w h h0).mono ?_
        rintro e w' ⟨rfl, hb⟩
        exact .look (.inr (.inr hk)) h hb ht (Sl.nil _ _ _) (Sl.nil _ _ _)
end Go.Proofs.WK
