/-
  (*Server).Do, kind by kind: get, hist, find; and who may not ask.
-/
import Derived.Test.YtljjiicjnoljbaaSrvDoR
import Derived.Test.YtljjiicjnoljbaaFindBy
namespace Go.Proofs.WK
open Go.RowKit Rp
theorem look_heap {w : World} {a b k : Nat} {x u c d e f : Value} {j : Nat} (ha : k ≠ a) (hb : k ≠ b) : ((((((w.setCell ⟨b, j, none⟩ x).setCell ⟨b, 0, none⟩ u).setCell ⟨a, 0, none⟩ c).setCell ⟨a, 1, none⟩ d).setCell ⟨a, 2, none⟩ e).setCell ⟨a, 3, none⟩ f).heap[k]? = w.heap[k]? := by
  rw [told_heap ha hb]
  exact Below.heap_setCell _ _ _ k hb
theorem look_below {w w1 : World} {a b : Nat} {x u c d e f : Value} {j : Nat} (h : Below w.heap.size w w1) (ha : w.heap.size ≤ a) (hb : w.heap.size ≤ b) : Below w.heap.size w ((((((w1.setCell ⟨b, j, none⟩ x).setCell ⟨b, 0, none⟩ u).setCell ⟨a, 0, none⟩ c).setCell ⟨a, 1, none⟩ d).setCell ⟨a, 2, none⟩ e).setCell ⟨a, 3, none⟩ f) :=
  below_set (below_set (below_set (below_set (below_set (below_set h hb _) hb _) ha _) ha _) ha _) ha _
theorem tell_below {w w1 : World} {a b : Nat} {u c d e f : Value} (h : Below w.heap.size w w1) (ha : w.heap.size ≤ a) (hb : w.heap.size ≤ b) : Below w.heap.size w (((((w1.setCell ⟨b, 0, none⟩ u).setCell ⟨a, 0, none⟩ c).setCell ⟨a, 1, none⟩ d).setCell ⟨a, 2, none⟩ e).setCell ⟨a, 3, none⟩ f) :=
  below_set (below_set (below_set (below_set (below_set h hb _) ha _) ha _) ha _) ha _
set_option maxHeartbeats 4000000 in
set_option maxRecDepth 100000 in
theorem doGet_no (g : Nat) (F : Nat → Prop) (s : Srv) (o : OpV) (hk : o.kind = 4) (B1 : Option Addr) (e1 : Nat) (B2 : Option Addr) (e2 : Nat) (B3 : Option Addr) (e3 : Nat) (w : World) (h : SrvIs w g F s) (h0 : ¬ mineE s o.who = 0) :
    Calls Try.prog 33 #[.pointer (some ⟨g, 0, none⟩), opVal o B1 e1 B2 e2 B3 e3] w fun e w' => e = .returned (.agg #[.int .i64 (mineE s o.who), .slice none 0 0, .slice none 0 0, .slice none 0 0]) ∧ Below w.heap.size w w' := by
  have hb0 : Below w.heap.size w (((w.alloc (.cells #[.int .i64 4, .int .i64 o.who.role, .int .i64 o.who.why, .int .i64 o.who.time, .slice B1 o.rules.length e1, .string o.r.id, .int .i64 o.r.cats, .slice B2 o.r.fields.length e2, .slice B3 o.r.refs.length e3, .string o.id, .string o.f.key, .string o.f.val] 62)).alloc (.cells #[.int .i64 0, .slice none 0 0, .slice none 0 0, .slice none 0 0] 69)).alloc (.cells #[.int .i64 0, .slice none 0 0, .slice none 0 0, .slice none 0 0] 69)) := (((Below.refl _ _).alloc (Nat.le_refl _) _).alloc (by simp) _).alloc (by simp; omega) _
  have hz : (((w.alloc (.cells #[.int .i64 4, .int .i64 o.who.role, .int .i64 o.who.why, .int .i64 o.who.time, .slice B1 o.rules.length e1, .string o.r.id, .int .i64 o.r.cats, .slice B2 o.r.fields.length e2, .slice B3 o.r.refs.length e3, .string o.id, .string o.f.key, .string o.f.val] 62)).alloc (.cells #[.int .i64 0, .slice none 0 0, .slice none 0 0, .slice none 0 0] 69)).alloc (.cells #[.int .i64 0, .slice none 0 0, .slice none 0 0, .slice none 0 0] 69)).heap.size = w.heap.size + 1 + 1 + 1 := by simp
  have hb1 := (Bk.made (w.alloc (.cells #[.int .i64 4, .int .i64 o.who.role, .int .i64 o.who.why, .int .i64 o.who.time, .slice B1 o.rules.length e1, .string o.r.id, .int .i64 o.r.cats, .slice B2 o.r.fields.length e2, .slice B3 o.r.refs.length e3, .string o.id, .string o.f.key, .string o.f.val] 62)) [.int .i64 0, .slice none 0 0, .slice none 0 0, .slice none 0 0] 69).alloc (.cells #[.int .i64 0, .slice none 0 0, .slice none 0 0, .slice none 0 0] 69)
  have hb2 := Bk.made ((w.alloc (.cells #[.int .i64 4, .int .i64 o.who.role, .int .i64 o.who.why, .int .i64 o.who.time, .slice B1 o.rules.length e1, .string o.r.id, .int .i64 o.r.cats, .slice B2 o.r.fields.length e2, .slice B3 o.r.refs.length e3, .string o.id, .string o.f.key, .string o.f.val] 62)).alloc (.cells #[.int .i64 0, .slice none 0 0, .slice none 0 0, .slice none 0 0] 69)) [.int .i64 0, .slice none 0 0, .slice none 0 0, .slice none 0 0] 69
  rw [show (w.alloc (.cells #[.int .i64 4, .int .i64 o.who.role, .int .i64 o.who.why, .int .i64 o.who.time, .slice B1 o.rules.length e1, .string o.r.id, .int .i64 o.r.cats, .slice B2 o.r.fields.length e2, .slice B3 o.r.refs.length e3, .string o.id, .string o.f.key, .string o.f.val] 62)).heap.size = w.heap.size + 1 by simp] at hb1
  rw [show ((w.alloc (.cells #[.int .i64 4, .int .i64 o.who.role, .int .i64 o.who.why, .int .i64 o.who.time, .slice B1 o.rules.length e1, .string o.r.id, .int .i64 o.r.cats, .slice B2 o.r.fields.length e2, .slice B3 o.r.refs.length e3, .string o.id, .string o.f.key, .string o.f.val] 62)).alloc (.cells #[.int .i64 0, .slice none 0 0, .slice none 0 0, .slice none 0 0] 69)).heap.size = w.heap.size + 1 + 1 by simp] at hb2
  have HS := Aside.mk (h.below hb0)
  have HQ0 := Aside.mk (((Bk.made w [.int .i64 4, .int .i64 o.who.role, .int .i64 o.who.why, .int .i64 o.who.time, .slice B1 o.rules.length e1, .string o.r.id, .int .i64 o.r.cats, .slice B2 o.r.fields.length e2, .slice B3 o.r.refs.length e3, .string o.id, .string o.f.key, .string o.f.val] 62).alloc (.cells #[.int .i64 0, .slice none 0 0, .slice none 0 0, .slice none 0 0] 69)).alloc (.cells #[.int .i64 0, .slice none 0 0, .slice none 0 0, .slice none 0 0] 69))
  have HQ1 := Aside.mk hb1
  have HQ2 := Aside.mk hb2
  have HZ := Aside.mk hz
  have HB := Aside.mk hb0
  clear h hb0 hb1 hb2 hz
  obtain ⟨me, hme⟩ : ∃ me, mineE s o.who = me := ⟨_, rfl⟩
  have HME := Aside.mk hme
  rw [hme] at h0
  rw [hme]
  have g3 : (me != 0) = true := by simp [h0]
  clear h0 hme
  unfold opVal
  rw [hk]
  go_enter Try.func33, Try.ntmps33
  go_wp2_with fail
  refine (serverPart g F s o.who _ HS.out).mono ?_
  rw [HME.out]
  rintro e w1 ⟨v, rfl, sl, hb⟩
  obtain ⟨X, d, rfl⟩ := Sl.form sl
  have q0 : w1.cell? ⟨w.heap.size, 0, none⟩ = some (.int .i64 4) := (HQ0.out.below hb).cell 0
  have q1 := (HQ1.out.below hb).four
  have q2 := (HQ2.out.below hb).four
  have HB1 := Aside.mk (below_step HB.out hb)
  clear hb sl
  go_wp2_with fail
  refine bodyPost_ret (v := .agg #[.int .i64 me, .slice none 0 0, .slice none 0 0, .slice none 0 0]) ?_ rfl ⟨rfl, tell_below HB1.out (by omega) (by omega)⟩
  simp [results, Try.results33, go_sem, q1]
set_option maxHeartbeats 4000000 in
set_option maxRecDepth 100000 in
theorem doHist_no (g : Nat) (F : Nat → Prop) (s : Srv) (o : OpV) (hk : o.kind = 6) (B1 : Option Addr) (e1 : Nat) (B2 : Option Addr) (e2 : Nat) (B3 : Option Addr) (e3 : Nat) (w : World) (h : SrvIs w g F s) (h0 : ¬ mineE s o.who = 0) :
    Calls Try.prog 33 #[.pointer (some ⟨g, 0, none⟩), opVal o B1 e1 B2 e2 B3 e3] w fun e w' => e = .returned (.agg #[.int .i64 (mineE s o.who), .slice none 0 0, .slice none 0 0, .slice none 0 0]) ∧ Below w.heap.size w w' := by
  have hb0 : Below w.heap.size w (((w.alloc (.cells #[.int .i64 6, .int .i64 o.who.role, .int .i64 o.who.why, .int .i64 o.who.time, .slice B1 o.rules.length e1, .string o.r.id, .int .i64 o.r.cats, .slice B2 o.r.fields.length e2, .slice B3 o.r.refs.length e3, .string o.id, .string o.f.key, .string o.f.val] 62)).alloc (.cells #[.int .i64 0, .slice none 0 0, .slice none 0 0, .slice none 0 0] 69)).alloc (.cells #[.int .i64 0, .slice none 0 0, .slice none 0 0, .slice none 0 0] 69)) := (((Below.refl _ _).alloc (Nat.le_refl _) _).alloc (by simp) _).alloc (by simp; omega) _
  have hz : (((w.alloc (.cells #[.int .i64 6, .int .i64 o.who.role, .int .i64 o.who.why, .int .i64 o.who.time, .slice B1 o.rules.length e1, .string o.r.id, .int .i64 o.r.cats, .slice B2 o.r.fields.length e2, .slice B3 o.r.refs.length e3, .string o.id, .string o.f.key, .string o.f.val] 62)).alloc (.cells #[.int .i64 0, .slice none 0 0, .slice none 0 0, .slice none 0 0] 69)).alloc (.cells #[.int .i64 0, .slice none 0 0, .slice none 0 0, .slice none 0 0] 69)).heap.size = w.heap.size + 1 + 1 + 1 := by simp
  have hb1 := (Bk.made (w.alloc (.cells #[.int .i64 6, .int .i64 o.who.role, .int .i64 o.who.why, .int .i64 o.who.time, .slice B1 o.rules.length e1, .string o.r.id, .int .i64 o.r.cats, .slice B2 o.r.fields.length e2, .slice B3 o.r.refs.length e3, .string o.id, .string o.f.key, .string o.f.val] 62)) [.int .i64 0, .slice none 0 0, .slice none 0 0, .slice none 0 0] 69).alloc (.cells #[.int .i64 0, .slice none 0 0, .slice none 0 0, .slice none 0 0] 69)
  have hb2 := Bk.made ((w.alloc (.cells #[.int .i64 6, .int .i64 o.who.role, .int .i64 o.who.why, .int .i64 o.who.time, .slice B1 o.rules.length e1, .string o.r.id, .int .i64 o.r.cats, .slice B2 o.r.fields.length e2, .slice B3 o.r.refs.length e3, .string o.id, .string o.f.key, .string o.f.val] 62)).alloc (.cells #[.int .i64 0, .slice none 0 0, .slice none 0 0, .slice none 0 0] 69)) [.int .i64 0, .slice none 0 0, .slice none 0 0, .slice none 0 0] 69
  rw [show (w.alloc (.cells #[.int .i64 6, .int .i64 o.who.role, .int .i64 o.who.why, .int .i64 o.who.time, .slice B1 o.rules.length e1, .string o.r.id, .int .i64 o.r.cats, .slice B2 o.r.fields.length e2, .slice B3 o.r.refs.length e3, .string o.id, .string o.f.key, .string o.f.val] 62)).heap.size = w.heap.size + 1 by simp] at hb1
  rw [show ((w.alloc (.cells #[.int .i64 6, .int .i64 o.who.role, .int .i64 o.who.why, .int .i64 o.who.time, .slice B1 o.rules.length e1, .string o.r.id, .int .i64 o.r.cats, .slice B2 o.r.fields.length e2, .slice B3 o.r.refs.length e3, .string o.id, .string o.f.key, .string o.f.val] 62)).alloc (.cells #[.int .i64 0, .slice none 0 0, .slice none 0 0, .slice none 0 0] 69)).heap.size = w.heap.size + 1 + 1 by simp] at hb2
  have HS := Aside.mk (h.below hb0)
  have HQ0 := Aside.mk (((Bk.made w [.int .i64 6, .int .i64 o.who.role, .int .i64 o.who.why, .int .i64 o.who.time, .slice B1 o.rules.length e1, .string o.r.id, .int .i64 o.r.cats, .slice B2 o.r.fields.length e2, .slice B3 o.r.refs.length e3, .string o.id, .string o.f.key, .string o.f.val] 62).alloc (.cells #[.int .i64 0, .slice none 0 0, .slice none 0 0, .slice none 0 0] 69)).alloc (.cells #[.int .i64 0, .slice none 0 0, .slice none 0 0, .slice none 0 0] 69))
  have HQ1 := Aside.mk hb1
  have HQ2 := Aside.mk hb2
  have HZ := Aside.mk hz
  have HB := Aside.mk hb0
  clear h hb0 hb1 hb2 hz
  obtain ⟨me, hme⟩ : ∃ me, mineE s o.who = me := ⟨_, rfl⟩
  have HME := Aside.mk hme
  rw [hme] at h0
  rw [hme]
  have g3 : (me != 0) = true := by simp [h0]
  clear h0 hme
  unfold opVal
  rw [hk]
  go_enter Try.func33, Try.ntmps33
  go_wp2_with fail
  refine (serverPart g F s o.who _ HS.out).mono ?_
  rw [HME.out]
  rintro e w1 ⟨v, rfl, sl, hb⟩
  obtain ⟨X, d, rfl⟩ := Sl.form sl
  have q0 : w1.cell? ⟨w.heap.size, 0, none⟩ = some (.int .i64 6) := (HQ0.out.below hb).cell 0
  have q1 := (HQ1.out.below hb).four
  have q2 := (HQ2.out.below hb).four
  have HB1 := Aside.mk (below_step HB.out hb)
  clear hb sl
  go_wp2_with fail
  refine bodyPost_ret (v := .agg #[.int .i64 me, .slice none 0 0, .slice none 0 0, .slice none 0 0]) ?_ rfl ⟨rfl, tell_below HB1.out (by omega) (by omega)⟩
  simp [results, Try.results33, go_sem, q1]
set_option maxHeartbeats 4000000 in
set_option maxRecDepth 100000 in
theorem doFind_no (g : Nat) (F : Nat → Prop) (s : Srv) (o : OpV) (hk : o.kind = 5) (B1 : Option Addr) (e1 : Nat) (B2 : Option Addr) (e2 : Nat) (B3 : Option Addr) (e3 : Nat) (w : World) (h : SrvIs w g F s) (h0 : ¬ mineE s o.who = 0) :
    Calls Try.prog 33 #[.pointer (some ⟨g, 0, none⟩), opVal o B1 e1 B2 e2 B3 e3] w fun e w' => e = .returned (.agg #[.int .i64 (mineE s o.who), .slice none 0 0, .slice none 0 0, .slice none 0 0]) ∧ Below w.heap.size w w' := by
  have hb0 : Below w.heap.size w (((w.alloc (.cells #[.int .i64 5, .int .i64 o.who.role, .int .i64 o.who.why, .int .i64 o.who.time, .slice B1 o.rules.length e1, .string o.r.id, .int .i64 o.r.cats, .slice B2 o.r.fields.length e2, .slice B3 o.r.refs.length e3, .string o.id, .string o.f.key, .string o.f.val] 62)).alloc (.cells #[.int .i64 0, .slice none 0 0, .slice none 0 0, .slice none 0 0] 69)).alloc (.cells #[.int .i64 0, .slice none 0 0, .slice none 0 0, .slice none 0 0] 69)) := (((Below.refl _ _).alloc (Nat.le_refl _) _).alloc (by simp) _).alloc (by simp; omega) _
  have hz : (((w.alloc (.cells #[.int .i64 5, .int .i64 o.who.role, .int .i64 o.who.why, .int .i64 o.who.time, .slice B1 o.rules.length e1, .string o.r.id, .int .i64 o.r.cats, .slice B2 o.r.fields.length e2, .slice B3 o.r.refs.length e3, .string o.id, .string o.f.key, .string o.f.val] 62)).alloc (.cells #[.int .i64 0, .slice none 0 0, .slice none 0 0, .slice none 0 0] 69)).alloc (.cells #[.int .i64 0, .slice none 0 0, .slice none 0 0, .slice none 0 0] 69)).heap.size = w.heap.size + 1 + 1 + 1 := by simp
  have hb1 := (Bk.made (w.alloc (.cells #[.int .i64 5, .int .i64 o.who.role, .int .i64 o.who.why, .int .i64 o.who.time, .slice B1 o.rules.length e1, .string o.r.id, .int .i64 o.r.cats, .slice B2 o.r.fields.length e2, .slice B3 o.r.refs.length e3, .string o.id, .string o.f.key, .string o.f.val] 62)) [.int .i64 0, .slice none 0 0, .slice none 0 0, .slice none 0 0] 69).alloc (.cells #[.int .i64 0, .slice none 0 0, .slice none 0 0, .slice none 0 0] 69)
  have hb2 := Bk.made ((w.alloc (.cells #[.int .i64 5, .int .i64 o.who.role, .int .i64 o.who.why, .int .i64 o.who.time, .slice B1 o.rules.length e1, .string o.r.id, .int .i64 o.r.cats, .slice B2 o.r.fields.length e2, .slice B3 o.r.refs.length e3, .string o.id, .string o.f.key, .string o.f.val] 62)).alloc (.cells #[.int .i64 0, .slice none 0 0, .slice none 0 0, .slice none 0 0] 69)) [.int .i64 0, .slice none 0 0, .slice none 0 0, .slice none 0 0] 69
  rw [show (w.alloc (.cells #[.int .i64 5, .int .i64 o.who.role, .int .i64 o.who.why, .int .i64 o.who.time, .slice B1 o.rules.length e1, .string o.r.id, .int .i64 o.r.cats, .slice B2 o.r.fields.length e2, .slice B3 o.r.refs.length e3, .string o.id, .string o.f.key, .string o.f.val] 62)).heap.size = w.heap.size + 1 by simp] at hb1
  rw [show ((w.alloc (.cells #[.int .i64 5, .int .i64 o.who.role, .int .i64 o.who.why, .int .i64 o.who.time, .slice B1 o.rules.length e1, .string o.r.id, .int .i64 o.r.cats, .slice B2 o.r.fields.length e2, .slice B3 o.r.refs.length e3, .string o.id, .string o.f.key, .string o.f.val] 62)).alloc (.cells #[.int .i64 0, .slice none 0 0, .slice none 0 0, .slice none 0 0] 69)).heap.size = w.heap.size + 1 + 1 by simp] at hb2
  have HS := Aside.mk (h.below hb0)
  have HQ0 := Aside.mk (((Bk.made w [.int .i64 5, .int .i64 o.who.role, .int .i64 o.who.why, .int .i64 o.who.time, .slice B1 o.rules.length e1, .string o.r.id, .int .i64 o.r.cats, .slice B2 o.r.fields.length e2, .slice B3 o.r.refs.length e3, .string o.id, .string o.f.key, .string o.f.val] 62).alloc (.cells #[.int .i64 0, .slice none 0 0, .slice none 0 0, .slice none 0 0] 69)).alloc (.cells #[.int .i64 0, .slice none 0 0, .slice none 0 0, .slice none 0 0] 69))
  have HQ1 := Aside.mk hb1
  have HQ2 := Aside.mk hb2
  have HZ := Aside.mk hz
  have HB := Aside.mk hb0
  clear h hb0 hb1 hb2 hz
  obtain ⟨me, hme⟩ : ∃ me, mineE s o.who = me := ⟨_, rfl⟩
  have HME := Aside.mk hme
  rw [hme] at h0
  rw [hme]
  have g3 : (me != 0) = true := by simp [h0]
  clear h0 hme
  unfold opVal
  rw [hk]
  go_enter Try.func33, Try.ntmps33
  go_wp2_with fail
  refine (serverPart g F s o.who _ HS.out).mono ?_
  rw [HME.out]
  rintro e w1 ⟨v, rfl, sl, hb⟩
  obtain ⟨X, d, rfl⟩ := Sl.form sl
  have q0 : w1.cell? ⟨w.heap.size, 0, none⟩ = some (.int .i64 5) := (HQ0.out.below hb).cell 0
  have q1 := (HQ1.out.below hb).four
  have q2 := (HQ2.out.below hb).four
  have HB1 := Aside.mk (below_step HB.out hb)
  clear hb sl
  go_wp2_with fail
  refine bodyPost_ret (v := .agg #[.int .i64 me, .slice none 0 0, .slice none 0 0, .slice none 0 0]) ?_ rfl ⟨rfl, tell_below HB1.out (by omega) (by omega)⟩
  simp [results, Try.results33, go_sem, q1]
set_option maxHeartbeats 4000000 in
set_option maxRecDepth 100000 in
theorem doGet_ok (g : Nat) (F : Nat → Prop) (s : Srv) (o : OpV) (hk : o.kind = 4) (B1 : Option Addr) (e1 : Nat) (B2 : Option Addr) (e2 : Nat) (B3 : Option Addr) (e3 : Nat) (w : World) (h : SrvIs w g F s) (h0 : mineE s o.who = 0) :
    Calls Try.prog 33 #[.pointer (some ⟨g, 0, none⟩), opVal o B1 e1 B2 e2 B3 e3] w fun e w' => ∃ v, e = .returned (.agg #[.int .i64 (getErr (mineV s o.who) o.id), v, .slice none 0 0, .slice none 0 0]) ∧ verR.Sl w' (fun k => w.heap.size ≤ k) v (oneV (mineV s o.who) o.id) ∧ Below w.heap.size w w' := by
  have hb0 : Below w.heap.size w (((w.alloc (.cells #[.int .i64 4, .int .i64 o.who.role, .int .i64 o.who.why, .int .i64 o.who.time, .slice B1 o.rules.length e1, .string o.r.id, .int .i64 o.r.cats, .slice B2 o.r.fields.length e2, .slice B3 o.r.refs.length e3, .string o.id, .string o.f.key, .string o.f.val] 62)).alloc (.cells #[.int .i64 0, .slice none 0 0, .slice none 0 0, .slice none 0 0] 69)).alloc (.cells #[.int .i64 0, .slice none 0 0, .slice none 0 0, .slice none 0 0] 69)) := (((Below.refl _ _).alloc (Nat.le_refl _) _).alloc (by simp) _).alloc (by simp; omega) _
  have hz : (((w.alloc (.cells #[.int .i64 4, .int .i64 o.who.role, .int .i64 o.who.why, .int .i64 o.who.time, .slice B1 o.rules.length e1, .string o.r.id, .int .i64 o.r.cats, .slice B2 o.r.fields.length e2, .slice B3 o.r.refs.length e3, .string o.id, .string o.f.key, .string o.f.val] 62)).alloc (.cells #[.int .i64 0, .slice none 0 0, .slice none 0 0, .slice none 0 0] 69)).alloc (.cells #[.int .i64 0, .slice none 0 0, .slice none 0 0, .slice none 0 0] 69)).heap.size = w.heap.size + 1 + 1 + 1 := by simp
  have hb1 := (Bk.made (w.alloc (.cells #[.int .i64 4, .int .i64 o.who.role, .int .i64 o.who.why, .int .i64 o.who.time, .slice B1 o.rules.length e1, .string o.r.id, .int .i64 o.r.cats, .slice B2 o.r.fields.length e2, .slice B3 o.r.refs.length e3, .string o.id, .string o.f.key, .string o.f.val] 62)) [.int .i64 0, .slice none 0 0, .slice none 0 0, .slice none 0 0] 69).alloc (.cells #[.int .i64 0, .slice none 0 0, .slice none 0 0, .slice none 0 0] 69)
  have hb2 := Bk.made ((w.alloc (.cells #[.int .i64 4, .int .i64 o.who.role, .int .i64 o.who.why, .int .i64 o.who.time, .slice B1 o.rules.length e1, .string o.r.id, .int .i64 o.r.cats, .slice B2 o.r.fields.length e2, .slice B3 o.r.refs.length e3, .string o.id, .string o.f.key, .string o.f.val] 62)).alloc (.cells #[.int .i64 0, .slice none 0 0, .slice none 0 0, .slice none 0 0] 69)) [.int .i64 0, .slice none 0 0, .slice none 0 0, .slice none 0 0] 69
  rw [show (w.alloc (.cells #[.int .i64 4, .int .i64 o.who.role, .int .i64 o.who.why, .int .i64 o.who.time, .slice B1 o.rules.length e1, .string o.r.id, .int .i64 o.r.cats, .slice B2 o.r.fields.length e2, .slice B3 o.r.refs.length e3, .string o.id, .string o.f.key, .string o.f.val] 62)).heap.size = w.heap.size + 1 by simp] at hb1
  rw [show ((w.alloc (.cells #[.int .i64 4, .int .i64 o.who.role, .int .i64 o.who.why, .int .i64 o.who.time, .slice B1 o.rules.length e1, .string o.r.id, .int .i64 o.r.cats, .slice B2 o.r.fields.length e2, .slice B3 o.r.refs.length e3, .string o.id, .string o.f.key, .string o.f.val] 62)).alloc (.cells #[.int .i64 0, .slice none 0 0, .slice none 0 0, .slice none 0 0] 69)).heap.size = w.heap.size + 1 + 1 by simp] at hb2
  have HS := Aside.mk (h.below hb0)
  have HQ0 := Aside.mk (((Bk.made w [.int .i64 4, .int .i64 o.who.role, .int .i64 o.who.why, .int .i64 o.who.time, .slice B1 o.rules.length e1, .string o.r.id, .int .i64 o.r.cats, .slice B2 o.r.fields.length e2, .slice B3 o.r.refs.length e3, .string o.id, .string o.f.key, .string o.f.val] 62).alloc (.cells #[.int .i64 0, .slice none 0 0, .slice none 0 0, .slice none 0 0] 69)).alloc (.cells #[.int .i64 0, .slice none 0 0, .slice none 0 0, .slice none 0 0] 69))
  have HQ1 := Aside.mk hb1
  have HQ2 := Aside.mk hb2
  have HZ := Aside.mk hz
  have HB := Aside.mk hb0
  clear h hb0 hb1 hb2 hz
  obtain ⟨ml, hml⟩ : ∃ ml, mineV s o.who = ml := ⟨_, rfl⟩
  have HME := Aside.mk h0
  have HML := Aside.mk hml
  rw [hml]
  clear h0 hml
  obtain ⟨xe, hxe⟩ : ∃ xe, getErr ml o.id = xe := ⟨_, rfl⟩
  have HXE := Aside.mk hxe
  rw [hxe]
  clear hxe
  unfold opVal
  rw [hk]
  go_enter Try.func33, Try.ntmps33
  go_wp2_with fail
  refine (serverPart g F s o.who _ HS.out).mono ?_
  rw [HME.out, HML.out]
  rintro e w1 ⟨v, rfl, sl, hb⟩
  obtain ⟨X, d, rfl, hd, hrow⟩ := sl
  have q0 : w1.cell? ⟨w.heap.size, 0, none⟩ = some (.int .i64 4) := (HQ0.out.below hb).cell 0
  have q9 : w1.cell? ⟨w.heap.size, 9, none⟩ = some (.string o.id) := (HQ0.out.below hb).cell 9
  have q10 : w1.cell? ⟨w.heap.size, 10, none⟩ = some (.string o.f.key) := (HQ0.out.below hb).cell 10
  have q11 : w1.cell? ⟨w.heap.size, 11, none⟩ = some (.string o.f.val) := (HQ0.out.below hb).cell 11
  have HQ11 := Aside.mk (HQ1.out.below hb)
  have HQ21 := Aside.mk (HQ2.out.below hb)
  have HB1 := Aside.mk (below_step HB.out hb)
  have HR := Aside.mk hrow
  have HZ1 : Aside (w.heap.size + 1 + 1 + 1 ≤ w1.heap.size) := ⟨by have := hb.size; have := HZ.out; omega⟩
  clear hb hrow
  go_wp2_with fail
  refine (serverOne X d ml o.id _ _ HR.out hd).mono ?_
  rw [HXE.out]
  rintro e w2 ⟨v2, rfl, s2, hb⟩
  have HB2 := Aside.mk (below_step HB1.out hb)
  have q1 := (HQ11.out.below hb).four
  have q2 := (HQ21.out.below hb).four
  have HV := Aside.mk s2
  obtain ⟨Y, dy, rfl⟩ := Sl.form s2
  clear s2 hb q0 q9 q10 q11
  go_wp2_with fail
  refine bodyPost_ret (v := .agg #[.int .i64 xe, _, .slice none 0 0, .slice none 0 0]) ?_ rfl ⟨_, rfl, (HV.out.move fun k hk _ => look_heap ?_ ?_).mono fun k hk _ => Nat.le_trans HB1.out.size hk, look_below HB2.out (by omega) (by omega)⟩
  · simp [results, Try.results33, go_sem, q1]
  all_goals
    have := HZ1.out
    have hk' : w1.heap.size ≤ k := hk
    omega
set_option maxHeartbeats 4000000 in
set_option maxRecDepth 100000 in
theorem doHist_ok (g : Nat) (F : Nat → Prop) (s : Srv) (o : OpV) (hk : o.kind = 6) (B1 : Option Addr) (e1 : Nat) (B2 : Option Addr) (e2 : Nat) (B3 : Option Addr) (e3 : Nat) (w : World) (h : SrvIs w g F s) (h0 : mineE s o.who = 0) :
    Calls Try.prog 33 #[.pointer (some ⟨g, 0, none⟩), opVal o B1 e1 B2 e2 B3 e3] w fun e w' => ∃ v, e = .returned (.agg #[.int .i64 (histErr (mineV s o.who) o.id), v, .slice none 0 0, .slice none 0 0]) ∧ verR.Sl w' (fun k => w.heap.size ≤ k) v (histV (mineV s o.who) o.id) ∧ Below w.heap.size w w' := by
  have hb0 : Below w.heap.size w (((w.alloc (.cells #[.int .i64 6, .int .i64 o.who.role, .int .i64 o.who.why, .int .i64 o.who.time, .slice B1 o.rules.length e1, .string o.r.id, .int .i64 o.r.cats, .slice B2 o.r.fields.length e2, .slice B3 o.r.refs.length e3, .string o.id, .string o.f.key, .string o.f.val] 62)).alloc (.cells #[.int .i64 0, .slice none 0 0, .slice none 0 0, .slice none 0 0] 69)).alloc (.cells #[.int .i64 0, .slice none 0 0, .slice none 0 0, .slice none 0 0] 69)) := (((Below.refl _ _).alloc (Nat.le_refl _) _).alloc (by simp) _).alloc (by simp; omega) _
  have hz : (((w.alloc (.cells #[.int .i64 6, .int .i64 o.who.role, .int .i64 o.who.why, .int .i64 o.who.time, .slice B1 o.rules.length e1, .string o.r.id, .int .i64 o.r.cats, .slice B2 o.r.fields.length e2, .slice B3 o.r.refs.length e3, .string o.id, .string o.f.key, .string o.f.val] 62)).alloc (.cells #[.int .i64 0, .slice none 0 0, .slice none 0 0, .slice none 0 0] 69)).alloc (.cells #[.int .i64 0, .slice none 0 0, .slice none 0 0, .slice none 0 0] 69)).heap.size = w.heap.size + 1 + 1 + 1 := by simp
  have hb1 := (Bk.made (w.alloc (.cells #[.int .i64 6, .int .i64 o.who.role, .int .i64 o.who.why, .int .i64 o.who.time, .slice B1 o.rules.length e1, .string o.r.id, .int .i64 o.r.cats, .slice B2 o.r.fields.length e2, .slice B3 o.r.refs.length e3, .string o.id, .string o.f.key, .string o.f.val] 62)) [.int .i64 0, .slice none 0 0, .slice none 0 0, .slice none 0 0] 69).alloc (.cells #[.int .i64 0, .slice none 0 0, .slice none 0 0, .slice none 0 0] 69)
  have hb2 := Bk.made ((w.alloc (.cells #[.int .i64 6, .int .i64 o.who.role, .int .i64 o.who.why, .int .i64 o.who.time, .slice B1 o.rules.length e1, .string o.r.id, .int .i64 o.r.cats, .slice B2 o.r.fields.length e2, .slice B3 o.r.refs.length e3, .string o.id, .string o.f.key, .string o.f.val] 62)).alloc (.cells #[.int .i64 0, .slice none 0 0, .slice none 0 0, .slice none 0 0] 69)) [.int .i64 0, .slice none 0 0, .slice none 0 0, .slice none 0 0] 69
  rw [show (w.alloc (.cells #[.int .i64 6, .int .i64 o.who.role, .int .i64 o.who.why, .int .i64 o.who.time, .slice B1 o.rules.length e1, .string o.r.id, .int .i64 o.r.cats, .slice B2 o.r.fields.length e2, .slice B3 o.r.refs.length e3, .string o.id, .string o.f.key, .string o.f.val] 62)).heap.size = w.heap.size + 1 by simp] at hb1
  rw [show ((w.alloc (.cells #[.int .i64 6, .int .i64 o.who.role, .int .i64 o.who.why, .int .i64 o.who.time, .slice B1 o.rules.length e1, .string o.r.id, .int .i64 o.r.cats, .slice B2 o.r.fields.length e2, .slice B3 o.r.refs.length e3, .string o.id, .string o.f.key, .string o.f.val] 62)).alloc (.cells #[.int .i64 0, .slice none 0 0, .slice none 0 0, .slice none 0 0] 69)).heap.size = w.heap.size + 1 + 1 by simp] at hb2
  have HS := Aside.mk (h.below hb0)
  have HQ0 := Aside.mk (((Bk.made w [.int .i64 6, .int .i64 o.who.role, .int .i64 o.who.why, .int .i64 o.who.time, .slice B1 o.rules.length e1, .string o.r.id, .int .i64 o.r.cats, .slice B2 o.r.fields.length e2, .slice B3 o.r.refs.length e3, .string o.id, .string o.f.key, .string o.f.val] 62).alloc (.cells #[.int .i64 0, .slice none 0 0, .slice none 0 0, .slice none 0 0] 69)).alloc (.cells #[.int .i64 0, .slice none 0 0, .slice none 0 0, .slice none 0 0] 69))
  have HQ1 := Aside.mk hb1
  have HQ2 := Aside.mk hb2
  have HZ := Aside.mk hz
  have HB := Aside.mk hb0
  clear h hb0 hb1 hb2 hz
  obtain ⟨ml, hml⟩ : ∃ ml, mineV s o.who = ml := ⟨_, rfl⟩
  have HME := Aside.mk h0
  have HML := Aside.mk hml
  rw [hml]
  clear h0 hml
  obtain ⟨xe, hxe⟩ : ∃ xe, histErr ml o.id = xe := ⟨_, rfl⟩
  have HXE := Aside.mk hxe
  rw [hxe]
  clear hxe
  unfold opVal
  rw [hk]
  go_enter Try.func33, Try.ntmps33
  go_wp2_with fail
  refine (serverPart g F s o.who _ HS.out).mono ?_
  rw [HME.out, HML.out]
  rintro e w1 ⟨v, rfl, sl, hb⟩
  obtain ⟨X, d, rfl, hd, hrow⟩ := sl
  have q0 : w1.cell? ⟨w.heap.size, 0, none⟩ = some (.int .i64 6) := (HQ0.out.below hb).cell 0
  have q9 : w1.cell? ⟨w.heap.size, 9, none⟩ = some (.string o.id) := (HQ0.out.below hb).cell 9
  have q10 : w1.cell? ⟨w.heap.size, 10, none⟩ = some (.string o.f.key) := (HQ0.out.below hb).cell 10
  have q11 : w1.cell? ⟨w.heap.size, 11, none⟩ = some (.string o.f.val) := (HQ0.out.below hb).cell 11
  have HQ11 := Aside.mk (HQ1.out.below hb)
  have HQ21 := Aside.mk (HQ2.out.below hb)
  have HB1 := Aside.mk (below_step HB.out hb)
  have HR := Aside.mk hrow
  have HZ1 : Aside (w.heap.size + 1 + 1 + 1 ≤ w1.heap.size) := ⟨by have := hb.size; have := HZ.out; omega⟩
  clear hb hrow
  go_wp2_with fail
  refine (storeHist X d ml o.id _ _ HR.out hd).mono ?_
  rw [HXE.out]
  rintro e w2 ⟨v2, rfl, s2, hb⟩
  have HB2 := Aside.mk (below_step HB1.out hb)
  have q1 := (HQ11.out.below hb).four
  have q2 := (HQ21.out.below hb).four
  have HV := Aside.mk s2
  obtain ⟨Y, dy, rfl⟩ := Sl.form s2
  clear s2 hb q0 q9 q10 q11
  go_wp2_with fail
  refine bodyPost_ret (v := .agg #[.int .i64 xe, _, .slice none 0 0, .slice none 0 0]) ?_ rfl ⟨_, rfl, (HV.out.move fun k hk _ => look_heap ?_ ?_).mono fun k hk _ => Nat.le_trans HB1.out.size hk, look_below HB2.out (by omega) (by omega)⟩
  · simp [results, Try.results33, go_sem, q1]
  all_goals
    have := HZ1.out
    have hk' : w1.heap.size ≤ k := hk
    omega
set_option maxHeartbeats 4000000 in
set_option maxRecDepth 100000 in
theorem doFind_ok (g : Nat) (F : Nat → Prop) (s : Srv) (o : OpV) (hk : o.kind = 5) (B1 : Option Addr) (e1 : Nat) (B2 : Option Addr) (e2 : Nat) (B3 : Option Addr) (e3 : Nat) (w : World) (h : SrvIs w g F s) (h0 : mineE s o.who = 0) :
    Calls Try.prog 33 #[.pointer (some ⟨g, 0, none⟩), opVal o B1 e1 B2 e2 B3 e3] w fun e w' => ∃ v, e = .returned (.agg #[.int .i64 (byErr (mineV s o.who) o.f), .slice none 0 0, v, .slice none 0 0]) ∧ str.Sl w' (fun k => w.heap.size ≤ k) v (byV (mineV s o.who) o.f) ∧ Below w.heap.size w w' := by
  have hb0 : Below w.heap.size w (((w.alloc (.cells #[.int .i64 5, .int .i64 o.who.role, .int .i64 o.who.why, .int .i64 o.who.time, .slice B1 o.rules.length e1, .string o.r.id, .int .i64 o.r.cats, .slice B2 o.r.fields.length e2, .slice B3 o.r.refs.length e3, .string o.id, .string o.f.key, .string o.f.val] 62)).alloc (.cells #[.int .i64 0, .slice none 0 0, .slice none 0 0, .slice none 0 0] 69)).alloc (.cells #[.int .i64 0, .slice none 0 0, .slice none 0 0, .slice none 0 0] 69)) := (((Below.refl _ _).alloc (Nat.le_refl _) _).alloc (by simp) _).alloc (by simp; omega) _
  have hz : (((w.alloc (.cells #[.int .i64 5, .int .i64 o.who.role, .int .i64 o.who.why, .int .i64 o.who.time, .slice B1 o.rules.length e1, .string o.r.id, .int .i64 o.r.cats, .slice B2 o.r.fields.length e2, .slice B3 o.r.refs.length e3, .string o.id, .string o.f.key, .string o.f.val] 62)).alloc (.cells #[.int .i64 0, .slice none 0 0, .slice none 0 0, .slice none 0 0] 69)).alloc (.cells #[.int .i64 0, .slice none 0 0, .slice none 0 0, .slice none 0 0] 69)).heap.size = w.heap.size + 1 + 1 + 1 := by simp
  have hb1 := (Bk.made (w.alloc (.cells #[.int .i64 5, .int .i64 o.who.role, .int .i64 o.who.why, .int .i64 o.who.time, .slice B1 o.rules.length e1, .string o.r.id, .int .i64 o.r.cats, .slice B2 o.r.fields.length e2, .slice B3 o.r.refs.length e3, .string o.id, .string o.f.key, .string o.f.val] 62)) [.int .i64 0, .slice none 0 0, .slice none 0 0, .slice none 0 0] 69).alloc (.cells #[.int .i64 0, .slice none 0 0, .slice none 0 0, .slice none 0 0] 69)
  have hb2 := Bk.made ((w.alloc (.cells #[.int .i64 5, .int .i64 o.who.role, .int .i64 o.who.why, .int .i64 o.who.time, .slice B1 o.rules.length e1, .string o.r.id, .int .i64 o.r.cats, .slice B2 o.r.fields.length e2, .slice B3 o.r.refs.length e3, .string o.id, .string o.f.key, .string o.f.val] 62)).alloc (.cells #[.int .i64 0, .slice none 0 0, .slice none 0 0, .slice none 0 0] 69)) [.int .i64 0, .slice none 0 0, .slice none 0 0, .slice none 0 0] 69
  rw [show (w.alloc (.cells #[.int .i64 5, .int .i64 o.who.role, .int .i64 o.who.why, .int .i64 o.who.time, .slice B1 o.rules.length e1, .string o.r.id, .int .i64 o.r.cats, .slice B2 o.r.fields.length e2, .slice B3 o.r.refs.length e3, .string o.id, .string o.f.key, .string o.f.val] 62)).heap.size = w.heap.size + 1 by simp] at hb1
  rw [show ((w.alloc (.cells #[.int .i64 5, .int .i64 o.who.role, .int .i64 o.who.why, .int .i64 o.who.time, .slice B1 o.rules.length e1, .string o.r.id, .int .i64 o.r.cats, .slice B2 o.r.fields.length e2, .slice B3 o.r.refs.length e3, .string o.id, .string o.f.key, .string o.f.val] 62)).alloc (.cells #[.int .i64 0, .slice none 0 0, .slice none 0 0, .slice none 0 0] 69)).heap.size = w.heap.size + 1 + 1 by simp] at hb2
  have HS := Aside.mk (h.below hb0)
  have HQ0 := Aside.mk (((Bk.made w [.int .i64 5, .int .i64 o.who.role, .int .i64 o.who.why, .int .i64 o.who.time, .slice B1 o.rules.length e1, .string o.r.id, .int .i64 o.r.cats, .slice B2 o.r.fields.length e2, .slice B3 o.r.refs.length e3, .string o.id, .string o.f.key, .string o.f.val] 62).alloc (.cells #[.int .i64 0, .slice none 0 0, .slice none 0 0, .slice none 0 0] 69)).alloc (.cells #[.int .i64 0, .slice none 0 0, .slice none 0 0, .slice none 0 0] 69))
  have HQ1 := Aside.mk hb1
  have HQ2 := Aside.mk hb2
  have HZ := Aside.mk hz
  have HB := Aside.mk hb0
  clear h hb0 hb1 hb2 hz
  obtain ⟨ml, hml⟩ : ∃ ml, mineV s o.who = ml := ⟨_, rfl⟩
  have HME := Aside.mk h0
  have HML := Aside.mk hml
  rw [hml]
  clear h0 hml
  obtain ⟨xe, hxe⟩ : ∃ xe, byErr ml o.f = xe := ⟨_, rfl⟩
  have HXE := Aside.mk hxe
  rw [hxe]
  clear hxe
  unfold opVal
  rw [hk]
  go_enter Try.func33, Try.ntmps33
  go_wp2_with fail
  refine (serverPart g F s o.who _ HS.out).mono ?_
  rw [HME.out, HML.out]
  rintro e w1 ⟨v, rfl, sl, hb⟩
  obtain ⟨X, d, rfl, hd, hrow⟩ := sl
  have q0 : w1.cell? ⟨w.heap.size, 0, none⟩ = some (.int .i64 5) := (HQ0.out.below hb).cell 0
  have q9 : w1.cell? ⟨w.heap.size, 9, none⟩ = some (.string o.id) := (HQ0.out.below hb).cell 9
  have q10 : w1.cell? ⟨w.heap.size, 10, none⟩ = some (.string o.f.key) := (HQ0.out.below hb).cell 10
  have q11 : w1.cell? ⟨w.heap.size, 11, none⟩ = some (.string o.f.val) := (HQ0.out.below hb).cell 11
  have HQ11 := Aside.mk (HQ1.out.below hb)
  have HQ21 := Aside.mk (HQ2.out.below hb)
  have HB1 := Aside.mk (below_step HB.out hb)
  have HR := Aside.mk hrow
  have HZ1 : Aside (w.heap.size + 1 + 1 + 1 ≤ w1.heap.size) := ⟨by have := hb.size; have := HZ.out; omega⟩
  clear hb hrow
  go_wp2_with fail
  refine (findBy X d ml o.f _ _ HR.out hd).mono ?_
  rw [HXE.out]
  rintro e w2 ⟨v2, rfl, s2, hb⟩
  have HB2 := Aside.mk (below_step HB1.out hb)
  have q1 := (HQ11.out.below hb).four
  have q2 := (HQ21.out.below hb).four
  have HV := Aside.mk s2
  obtain ⟨Y, dy, rfl⟩ := Sl.form s2
  clear s2 hb q0 q9 q10 q11
  go_wp2_with fail
  refine bodyPost_ret (v := .agg #[.int .i64 xe, .slice none 0 0, _, .slice none 0 0]) ?_ rfl ⟨_, rfl, (HV.out.move fun k hk _ => look_heap ?_ ?_).mono fun k hk _ => Nat.le_trans HB1.out.size hk, look_below HB2.out (by omega) (by omega)⟩
  · simp [results, Try.results33, go_sem, q1]
  all_goals
    have := HZ1.out
    have hk' : w1.heap.size ≤ k := hk
    omega
end Go.Proofs.WK
