/-
  (*Server).Do, kind by kind: put, cut.
-/
import Derived.Test.YtljjiicjnoljbaaSrvCut
namespace Go.Proofs.WK
open Go.RowKit Rp
/-- A variable that is set behind everything that was there: nothing turns. -/
theorem grown_new {w w1 : World} {g n : Nat} (h : w.grownBy w1 (some g)) (hn : w.heap.size ≤ n) (o : Nat) (v : Value) : w.grownBy (w1.setCell ⟨n, o, none⟩ v) (some g) := by
  refine ⟨h.os, h.tape, h.output, ?_, fun k hk hne => (Below.heap_setCell _ _ _ k (fun e => by have e2 : k = n := e; omega)).trans (h.block k hk hne)⟩
  show w.heap.size ≤ (w1.heap.modify n _).size
  simpa using h.size
theorem told_heap {w : World} {a b k : Nat} {u c d e f : Value} (ha : k ≠ a) (hb : k ≠ b) : (((((w.setCell ⟨b, 0, none⟩ u).setCell ⟨a, 0, none⟩ c).setCell ⟨a, 1, none⟩ d).setCell ⟨a, 2, none⟩ e).setCell ⟨a, 3, none⟩ f).heap[k]? = w.heap[k]? := by
  rw [sets4 ha]
  exact Below.heap_setCell _ _ _ k hb
theorem told_grown {w w1 : World} {g a b : Nat} {u c d e f : Value} (h : w.grownBy w1 (some g)) (ha : w.heap.size ≤ a) (hb : w.heap.size ≤ b) : w.grownBy (((((w1.setCell ⟨b, 0, none⟩ u).setCell ⟨a, 0, none⟩ c).setCell ⟨a, 1, none⟩ d).setCell ⟨a, 2, none⟩ e).setCell ⟨a, 3, none⟩ f) (some g) :=
  grown_new (grown_new (grown_new (grown_new (grown_new h hb _ _) ha _ _) ha _ _) ha _ _) ha _ _
set_option maxHeartbeats 4000000 in
set_option maxRecDepth 100000 in
theorem doPut (g : Nat) (F : Nat → Prop) (s : Srv) (o : OpV) (hk : o.kind = 2) (B1 : Option Addr) (e1 : Nat) (B2 : Option Addr) (e2 : Nat) (B3 : Option Addr) (e3 : Nat) (ok1 ok2 : Nat → Prop) (w : World) (h : SrvIs w g F s) (hF : ∀ k, F k → k ≠ g)
    (hf : fldR.Row w ok1 B2 o.r.fields) (hf2 : o.r.fields.length ≤ e2) (hg : str.Row w ok2 B3 o.r.refs) (hg2 : o.r.refs.length ≤ e3) :
    Calls Try.prog 33 #[.pointer (some ⟨g, 0, none⟩), opVal o B1 e1 B2 e2 B3 e3] w fun e w' => e = .returned (.agg #[.int .i64 (putE s o), .slice none 0 0, .slice none 0 0, .slice none 0 0]) ∧ SrvIs w' g (fun k => F k ∨ w.heap.size ≤ k) (doS s o).1 ∧ w.grownBy w' (some g) := by
  rw [doS_put hk]
  obtain ⟨pe, hpe⟩ : ∃ pe, putE s o = pe := ⟨_, rfl⟩
  obtain ⟨s', hs'⟩ : ∃ s', (if putE s o = 0 then { s with l := putV s.l o.r } else s) = s' := ⟨_, rfl⟩
  rw [hs', hpe]
  have HPE := Aside.mk hpe
  have HS' := Aside.mk hs'
  have hgl : g < w.heap.size := by obtain ⟨_, _, _, _, _, _, _, _, h0, _⟩ := h; exact h0.lt
  have hb0 : Below w.heap.size w (((w.alloc (.cells #[.int .i64 2, .int .i64 o.who.role, .int .i64 o.who.why, .int .i64 o.who.time, .slice B1 o.rules.length e1, .string o.r.id, .int .i64 o.r.cats, .slice B2 o.r.fields.length e2, .slice B3 o.r.refs.length e3, .string o.id, .string o.f.key, .string o.f.val] 62)).alloc (.cells #[.int .i64 0, .slice none 0 0, .slice none 0 0, .slice none 0 0] 69)).alloc (.cells #[.int .i64 0, .slice none 0 0, .slice none 0 0, .slice none 0 0] 69)) := (((Below.refl _ _).alloc (Nat.le_refl _) _).alloc (by simp) _).alloc (by simp; omega) _
  have hz : (((w.alloc (.cells #[.int .i64 2, .int .i64 o.who.role, .int .i64 o.who.why, .int .i64 o.who.time, .slice B1 o.rules.length e1, .string o.r.id, .int .i64 o.r.cats, .slice B2 o.r.fields.length e2, .slice B3 o.r.refs.length e3, .string o.id, .string o.f.key, .string o.f.val] 62)).alloc (.cells #[.int .i64 0, .slice none 0 0, .slice none 0 0, .slice none 0 0] 69)).alloc (.cells #[.int .i64 0, .slice none 0 0, .slice none 0 0, .slice none 0 0] 69)).heap.size = w.heap.size + 1 + 1 + 1 := by simp
  have hc := serverPut g (fun k => F k ∧ k < w.heap.size) s o B1 e1 B2 e2 B3 e3 ok1 ok2 _ ((h.more (F' := fun k => F k ∧ k < w.heap.size) fun k hk hl => ⟨hk, hl⟩).below hb0) (fun k hk => hF k hk.1) (hf.below hb0) hf2 (hg.below hb0) hg2
  rw [hs', hpe] at hc
  unfold opVal at hc
  rw [hk] at hc
  have hb1 := (Bk.made (w.alloc (.cells #[.int .i64 2, .int .i64 o.who.role, .int .i64 o.who.why, .int .i64 o.who.time, .slice B1 o.rules.length e1, .string o.r.id, .int .i64 o.r.cats, .slice B2 o.r.fields.length e2, .slice B3 o.r.refs.length e3, .string o.id, .string o.f.key, .string o.f.val] 62)) [.int .i64 0, .slice none 0 0, .slice none 0 0, .slice none 0 0] 69).alloc (.cells #[.int .i64 0, .slice none 0 0, .slice none 0 0, .slice none 0 0] 69)
  have hb2 := Bk.made ((w.alloc (.cells #[.int .i64 2, .int .i64 o.who.role, .int .i64 o.who.why, .int .i64 o.who.time, .slice B1 o.rules.length e1, .string o.r.id, .int .i64 o.r.cats, .slice B2 o.r.fields.length e2, .slice B3 o.r.refs.length e3, .string o.id, .string o.f.key, .string o.f.val] 62)).alloc (.cells #[.int .i64 0, .slice none 0 0, .slice none 0 0, .slice none 0 0] 69)) [.int .i64 0, .slice none 0 0, .slice none 0 0, .slice none 0 0] 69
  rw [show (w.alloc (.cells #[.int .i64 2, .int .i64 o.who.role, .int .i64 o.who.why, .int .i64 o.who.time, .slice B1 o.rules.length e1, .string o.r.id, .int .i64 o.r.cats, .slice B2 o.r.fields.length e2, .slice B3 o.r.refs.length e3, .string o.id, .string o.f.key, .string o.f.val] 62)).heap.size = w.heap.size + 1 by simp] at hb1
  rw [show ((w.alloc (.cells #[.int .i64 2, .int .i64 o.who.role, .int .i64 o.who.why, .int .i64 o.who.time, .slice B1 o.rules.length e1, .string o.r.id, .int .i64 o.r.cats, .slice B2 o.r.fields.length e2, .slice B3 o.r.refs.length e3, .string o.id, .string o.f.key, .string o.f.val] 62)).alloc (.cells #[.int .i64 0, .slice none 0 0, .slice none 0 0, .slice none 0 0] 69)).heap.size = w.heap.size + 1 + 1 by simp] at hb2
  have HC := Aside.mk hc
  have HQ1 := Aside.mk hb1
  have HQ2 := Aside.mk hb2
  have HZ := Aside.mk hz
  have HG0 := Aside.mk (below_grown hb0 (some g))
  have HGL := Aside.mk hgl
  clear h hF hf hf2 hg hg2 hpe hs' hc hb0 hb1 hb2 hz hgl
  unfold opVal
  rw [hk]
  go_enter Try.func33, Try.ntmps33
  go_wp2_with fail
  refine HC.out.mono ?_
  rintro e w1 ⟨rfl, hs, hg1⟩
  have hne1 : some (w.heap.size + 1) ≠ some g := fun e => by have := HGL.out; injection e with e; omega
  have hne2 : some (w.heap.size + 1 + 1) ≠ some g := fun e => by have := HGL.out; injection e with e; omega
  have q1 := (HQ1.out.grown hg1 hne1).four
  have q2 := (HQ2.out.grown hg1 hne2).four
  have HS1 := Aside.mk hs
  have HG1 := Aside.mk (HG0.out.trans hg1)
  clear hs hg1 hne1 hne2
  go_wp2_with fail
  refine bodyPost_ret (v := .agg #[.int .i64 pe, .slice none 0 0, .slice none 0 0, .slice none 0 0]) ?_ rfl ⟨rfl, ?_, ?_⟩
  · simp [results, Try.results33, go_sem, q1]
  · refine (SrvIs.move HS1.out (told_heap (by have := HGL.out; omega) (by have := HGL.out; omega)) fun k hk _ => told_heap ?_ ?_).more fun k hk _ => hk.imp (fun h => h.1) fun h => by have := HZ.out; omega
    · have := HZ.out; omega
    · have := HZ.out; omega
  · exact told_grown HG1.out (by omega) (by omega)
set_option maxHeartbeats 4000000 in
set_option maxRecDepth 100000 in
theorem doCut (g : Nat) (F : Nat → Prop) (s : Srv) (o : OpV) (hk : o.kind = 3) (B1 : Option Addr) (e1 : Nat) (B2 : Option Addr) (e2 : Nat) (B3 : Option Addr) (e3 : Nat) (w : World) (h : SrvIs w g F s) (hF : ∀ k, F k → k ≠ g) :
    Calls Try.prog 33 #[.pointer (some ⟨g, 0, none⟩), opVal o B1 e1 B2 e2 B3 e3] w fun e w' => e = .returned (.agg #[.int .i64 (cutE s o), .slice none 0 0, .slice none 0 0, .slice none 0 0]) ∧ SrvIs w' g (fun k => F k ∨ w.heap.size ≤ k) (doS s o).1 ∧ w.grownBy w' (some g) := by
  rw [doS_cut hk]
  obtain ⟨pe, hpe⟩ : ∃ pe, cutE s o = pe := ⟨_, rfl⟩
  obtain ⟨s', hs'⟩ : ∃ s', (if cutE s o = 0 then { s with l := cutV s.l o.id o.r.cats } else s) = s' := ⟨_, rfl⟩
  rw [hs', hpe]
  have HPE := Aside.mk hpe
  have HS' := Aside.mk hs'
  have hgl : g < w.heap.size := by obtain ⟨_, _, _, _, _, _, _, _, h0, _⟩ := h; exact h0.lt
  have hb0 : Below w.heap.size w (((w.alloc (.cells #[.int .i64 3, .int .i64 o.who.role, .int .i64 o.who.why, .int .i64 o.who.time, .slice B1 o.rules.length e1, .string o.r.id, .int .i64 o.r.cats, .slice B2 o.r.fields.length e2, .slice B3 o.r.refs.length e3, .string o.id, .string o.f.key, .string o.f.val] 62)).alloc (.cells #[.int .i64 0, .slice none 0 0, .slice none 0 0, .slice none 0 0] 69)).alloc (.cells #[.int .i64 0, .slice none 0 0, .slice none 0 0, .slice none 0 0] 69)) := (((Below.refl _ _).alloc (Nat.le_refl _) _).alloc (by simp) _).alloc (by simp; omega) _
  have hz : (((w.alloc (.cells #[.int .i64 3, .int .i64 o.who.role, .int .i64 o.who.why, .int .i64 o.who.time, .slice B1 o.rules.length e1, .string o.r.id, .int .i64 o.r.cats, .slice B2 o.r.fields.length e2, .slice B3 o.r.refs.length e3, .string o.id, .string o.f.key, .string o.f.val] 62)).alloc (.cells #[.int .i64 0, .slice none 0 0, .slice none 0 0, .slice none 0 0] 69)).alloc (.cells #[.int .i64 0, .slice none 0 0, .slice none 0 0, .slice none 0 0] 69)).heap.size = w.heap.size + 1 + 1 + 1 := by simp
  have hc := serverCut g (fun k => F k ∧ k < w.heap.size) s o B1 e1 B2 e2 B3 e3 _ ((h.more (F' := fun k => F k ∧ k < w.heap.size) fun k hk hl => ⟨hk, hl⟩).below hb0) (fun k hk => hF k hk.1)
  rw [hs', hpe] at hc
  unfold opVal at hc
  rw [hk] at hc
  have hb1 := (Bk.made (w.alloc (.cells #[.int .i64 3, .int .i64 o.who.role, .int .i64 o.who.why, .int .i64 o.who.time, .slice B1 o.rules.length e1, .string o.r.id, .int .i64 o.r.cats, .slice B2 o.r.fields.length e2, .slice B3 o.r.refs.length e3, .string o.id, .string o.f.key, .string o.f.val] 62)) [.int .i64 0, .slice none 0 0, .slice none 0 0, .slice none 0 0] 69).alloc (.cells #[.int .i64 0, .slice none 0 0, .slice none 0 0, .slice none 0 0] 69)
  have hb2 := Bk.made ((w.alloc (.cells #[.int .i64 3, .int .i64 o.who.role, .int .i64 o.who.why, .int .i64 o.who.time, .slice B1 o.rules.length e1, .string o.r.id, .int .i64 o.r.cats, .slice B2 o.r.fields.length e2, .slice B3 o.r.refs.length e3, .string o.id, .string o.f.key, .string o.f.val] 62)).alloc (.cells #[.int .i64 0, .slice none 0 0, .slice none 0 0, .slice none 0 0] 69)) [.int .i64 0, .slice none 0 0, .slice none 0 0, .slice none 0 0] 69
  rw [show (w.alloc (.cells #[.int .i64 3, .int .i64 o.who.role, .int .i64 o.who.why, .int .i64 o.who.time, .slice B1 o.rules.length e1, .string o.r.id, .int .i64 o.r.cats, .slice B2 o.r.fields.length e2, .slice B3 o.r.refs.length e3, .string o.id, .string o.f.key, .string o.f.val] 62)).heap.size = w.heap.size + 1 by simp] at hb1
  rw [show ((w.alloc (.cells #[.int .i64 3, .int .i64 o.who.role, .int .i64 o.who.why, .int .i64 o.who.time, .slice B1 o.rules.length e1, .string o.r.id, .int .i64 o.r.cats, .slice B2 o.r.fields.length e2, .slice B3 o.r.refs.length e3, .string o.id, .string o.f.key, .string o.f.val] 62)).alloc (.cells #[.int .i64 0, .slice none 0 0, .slice none 0 0, .slice none 0 0] 69)).heap.size = w.heap.size + 1 + 1 by simp] at hb2
  have HC := Aside.mk hc
  have HQ1 := Aside.mk hb1
  have HQ2 := Aside.mk hb2
  have HZ := Aside.mk hz
  have HG0 := Aside.mk (below_grown hb0 (some g))
  have HGL := Aside.mk hgl
  clear h hF hpe hs' hc hb0 hb1 hb2 hz hgl
  unfold opVal
  rw [hk]
  go_enter Try.func33, Try.ntmps33
  go_wp2_with fail
  refine HC.out.mono ?_
  rintro e w1 ⟨rfl, hs, hg1⟩
  have hne1 : some (w.heap.size + 1) ≠ some g := fun e => by have := HGL.out; injection e with e; omega
  have hne2 : some (w.heap.size + 1 + 1) ≠ some g := fun e => by have := HGL.out; injection e with e; omega
  have q1 := (HQ1.out.grown hg1 hne1).four
  have q2 := (HQ2.out.grown hg1 hne2).four
  have HS1 := Aside.mk hs
  have HG1 := Aside.mk (HG0.out.trans hg1)
  clear hs hg1 hne1 hne2
  go_wp2_with fail
  refine bodyPost_ret (v := .agg #[.int .i64 pe, .slice none 0 0, .slice none 0 0, .slice none 0 0]) ?_ rfl ⟨rfl, ?_, ?_⟩
  · simp [results, Try.results33, go_sem, q1]
  · refine (SrvIs.move HS1.out (told_heap (by have := HGL.out; omega) (by have := HGL.out; omega)) fun k hk _ => told_heap ?_ ?_).more fun k hk _ => hk.imp (fun h => h.1) fun h => by have := HZ.out; omega
    · have := HZ.out; omega
    · have := HZ.out; omega
  · exact told_grown HG1.out (by omega) (by omega)
end Go.Proofs.WK
