/-
  (*Server).Do, kind by kind: rules.
-/
import Derived.Test.YtljjiicjnoljbaaSrvDo
import Derived.Test.YtljjiicjnoljbaaSrvNew
namespace Go.Proofs.WK
open Go.RowKit Rp
theorem own_rul {t : TypeId} {w : World} {base : Nat} {ok : Nat → Prop} {v : Value} {xs : List Rul} (h : rulR.Own t w base ok v xs) : rulR.Own t w base (fun _ => False) v xs := by
  obtain ⟨inner, h1, h2, h3⟩ := h
  exact ⟨inner, h1, h2, fun j p hp => rulK.2 (rulK.1 (h3 j p hp))⟩
/-- The server's rules are others from now on. -/
theorem SrvIs.setR {w : World} {g : Nat} {F : Nat → Prop} {s : Srv} (h : SrvIs w g F s) (hF : ∀ k, F k → k ≠ g) {v : Value} {l : List Rul} (hl : rulR.Sl w F v l) : SrvIs (w.setCell ⟨g, 1, none⟩ v) g F { s with rules := l } := by
  obtain ⟨A1, c1, A2, c2, A3, c3, A4, c4, h0, h1, h2, h3, h4⟩ := h
  obtain ⟨A5, c5, rfl, h5, h6⟩ := hl
  have hm : ∀ k, F k → k < w.heap.size → (w.setCell ⟨g, 1, none⟩ (.slice A5 l.length c5)).heap[k]? = w.heap[k]? := fun k hk _ => Below.heap_setCell _ _ _ k (hF k hk)
  exact ⟨A1, c1, A5, c5, A3, c3, A4, c4, h0.set 1 _, ⟨h1.1, h1.2.move hm⟩, ⟨h5, h6.move hm⟩, ⟨h3.1, h3.2.move hm⟩, h4.1, h4.2.move hm⟩
set_option maxHeartbeats 4000000 in
set_option maxRecDepth 100000 in
theorem doRules_bad (g : Nat) (F : Nat → Prop) (s : Srv) (o : OpV) (hk : o.kind = 1) (B1 : Option Addr) (e1 : Nat) (B2 : Option Addr) (e2 : Nat) (B3 : Option Addr) (e3 : Nat) (ok1 : Nat → Prop) (w : World) (h : SrvIs w g F s)
    (hf : rulR.Row w ok1 B1 o.rules) (h0 : ¬ rulesErr o.rules = 0) :
    Calls Try.prog 33 #[.pointer (some ⟨g, 0, none⟩), opVal o B1 e1 B2 e2 B3 e3] w fun e w' => e = .returned (.agg #[.int .i64 (rulesErr o.rules), .slice none 0 0, .slice none 0 0, .slice none 0 0]) ∧ SrvIs w' g (fun k => F k ∨ w.heap.size ≤ k) (doS s o).1 ∧ w.grownBy w' (some g) := by
  rw [doS_rules hk, if_neg h0]
  have hgl : g < w.heap.size := by obtain ⟨_, _, _, _, _, _, _, _, h0, _⟩ := h; exact h0.lt
  have hb0 : Below w.heap.size w (((w.alloc (.cells #[.int .i64 1, .int .i64 o.who.role, .int .i64 o.who.why, .int .i64 o.who.time, .slice B1 o.rules.length e1, .string o.r.id, .int .i64 o.r.cats, .slice B2 o.r.fields.length e2, .slice B3 o.r.refs.length e3, .string o.id, .string o.f.key, .string o.f.val] 62)).alloc (.cells #[.int .i64 0, .slice none 0 0, .slice none 0 0, .slice none 0 0] 69)).alloc (.cells #[.int .i64 0, .slice none 0 0, .slice none 0 0, .slice none 0 0] 69)) := (((Below.refl _ _).alloc (Nat.le_refl _) _).alloc (by simp) _).alloc (by simp; omega) _
  have hz : (((w.alloc (.cells #[.int .i64 1, .int .i64 o.who.role, .int .i64 o.who.why, .int .i64 o.who.time, .slice B1 o.rules.length e1, .string o.r.id, .int .i64 o.r.cats, .slice B2 o.r.fields.length e2, .slice B3 o.r.refs.length e3, .string o.id, .string o.f.key, .string o.f.val] 62)).alloc (.cells #[.int .i64 0, .slice none 0 0, .slice none 0 0, .slice none 0 0] 69)).alloc (.cells #[.int .i64 0, .slice none 0 0, .slice none 0 0, .slice none 0 0] 69)).heap.size = w.heap.size + 1 + 1 + 1 := by simp
  have hb1 := (Bk.made (w.alloc (.cells #[.int .i64 1, .int .i64 o.who.role, .int .i64 o.who.why, .int .i64 o.who.time, .slice B1 o.rules.length e1, .string o.r.id, .int .i64 o.r.cats, .slice B2 o.r.fields.length e2, .slice B3 o.r.refs.length e3, .string o.id, .string o.f.key, .string o.f.val] 62)) [.int .i64 0, .slice none 0 0, .slice none 0 0, .slice none 0 0] 69).alloc (.cells #[.int .i64 0, .slice none 0 0, .slice none 0 0, .slice none 0 0] 69)
  have hb2 := Bk.made ((w.alloc (.cells #[.int .i64 1, .int .i64 o.who.role, .int .i64 o.who.why, .int .i64 o.who.time, .slice B1 o.rules.length e1, .string o.r.id, .int .i64 o.r.cats, .slice B2 o.r.fields.length e2, .slice B3 o.r.refs.length e3, .string o.id, .string o.f.key, .string o.f.val] 62)).alloc (.cells #[.int .i64 0, .slice none 0 0, .slice none 0 0, .slice none 0 0] 69)) [.int .i64 0, .slice none 0 0, .slice none 0 0, .slice none 0 0] 69
  rw [show (w.alloc (.cells #[.int .i64 1, .int .i64 o.who.role, .int .i64 o.who.why, .int .i64 o.who.time, .slice B1 o.rules.length e1, .string o.r.id, .int .i64 o.r.cats, .slice B2 o.r.fields.length e2, .slice B3 o.r.refs.length e3, .string o.id, .string o.f.key, .string o.f.val] 62)).heap.size = w.heap.size + 1 by simp] at hb1
  rw [show ((w.alloc (.cells #[.int .i64 1, .int .i64 o.who.role, .int .i64 o.who.why, .int .i64 o.who.time, .slice B1 o.rules.length e1, .string o.r.id, .int .i64 o.r.cats, .slice B2 o.r.fields.length e2, .slice B3 o.r.refs.length e3, .string o.id, .string o.f.key, .string o.f.val] 62)).alloc (.cells #[.int .i64 0, .slice none 0 0, .slice none 0 0, .slice none 0 0] 69)).heap.size = w.heap.size + 1 + 1 by simp] at hb2
  have HS := Aside.mk ((h.more (F' := fun k => F k ∧ k < w.heap.size) fun k hk hl => ⟨hk, hl⟩).below hb0)
  have HR := Aside.mk (And.intro hf.1 (hf.below hb0))
  have HQ1 := Aside.mk hb1
  have HQ2 := Aside.mk hb2
  have HZ := Aside.mk hz
  have HB := Aside.mk hb0
  have HGL := Aside.mk hgl
  have g3 : (rulesErr o.rules == 0) = false := by simp [h0]
  clear h hf hb0 hb1 hb2 hz hgl h0
  unfold opVal
  rw [hk]
  go_enter Try.func33, Try.ntmps33
  go_wp2_with fail
  refine (ruleCheck _ _ o.rules _ _ HR.out.2 HR.out.1).mono ?_
  rintro e w1 ⟨rfl, hb⟩
  have q1 := (HQ1.out.below hb).four
  have q2 := (HQ2.out.below hb).four
  have HS1 := Aside.mk (HS.out.below hb)
  have HG1 := Aside.mk (below_grown (below_step HB.out hb) (some g))
  clear hb
  go_wp2_with fail
  refine bodyPost_ret (v := .agg #[.int .i64 (rulesErr o.rules), .slice none 0 0, .slice none 0 0, .slice none 0 0]) ?_ rfl ⟨rfl, ?_, ?_⟩
  · simp [results, Try.results33, go_sem, q1]
  · refine (SrvIs.move HS1.out (told_heap (by have := HGL.out; omega) (by have := HGL.out; omega)) fun k hk _ => told_heap ?_ ?_).more fun k hk _ => .inl hk.1
    · have := hk.2; omega
    · have := hk.2; omega
  · exact told_grown HG1.out (by omega) (by omega)
set_option maxHeartbeats 4000000 in
set_option maxRecDepth 100000 in
theorem doRules_ok (g : Nat) (F : Nat → Prop) (s : Srv) (o : OpV) (hk : o.kind = 1) (B1 : Option Addr) (e1 : Nat) (B2 : Option Addr) (e2 : Nat) (B3 : Option Addr) (e3 : Nat) (ok1 : Nat → Prop) (w : World) (h : SrvIs w g F s)
    (hf : rulR.Row w ok1 B1 o.rules) (h0 : rulesErr o.rules = 0) (hF : ∀ k, F k → k ≠ g) :
    Calls Try.prog 33 #[.pointer (some ⟨g, 0, none⟩), opVal o B1 e1 B2 e2 B3 e3] w fun e w' => e = .returned (.agg #[.int .i64 0, .slice none 0 0, .slice none 0 0, .slice none 0 0]) ∧ SrvIs w' g (fun k => F k ∨ w.heap.size ≤ k) (doS s o).1 ∧ w.grownBy w' (some g) := by
  rw [doS_rules hk, if_pos h0]
  have hgl : g < w.heap.size := by obtain ⟨_, _, _, _, _, _, _, _, h0, _⟩ := h; exact h0.lt
  have hb0 : Below w.heap.size w (((w.alloc (.cells #[.int .i64 1, .int .i64 o.who.role, .int .i64 o.who.why, .int .i64 o.who.time, .slice B1 o.rules.length e1, .string o.r.id, .int .i64 o.r.cats, .slice B2 o.r.fields.length e2, .slice B3 o.r.refs.length e3, .string o.id, .string o.f.key, .string o.f.val] 62)).alloc (.cells #[.int .i64 0, .slice none 0 0, .slice none 0 0, .slice none 0 0] 69)).alloc (.cells #[.int .i64 0, .slice none 0 0, .slice none 0 0, .slice none 0 0] 69)) := (((Below.refl _ _).alloc (Nat.le_refl _) _).alloc (by simp) _).alloc (by simp; omega) _
  have hz : (((w.alloc (.cells #[.int .i64 1, .int .i64 o.who.role, .int .i64 o.who.why, .int .i64 o.who.time, .slice B1 o.rules.length e1, .string o.r.id, .int .i64 o.r.cats, .slice B2 o.r.fields.length e2, .slice B3 o.r.refs.length e3, .string o.id, .string o.f.key, .string o.f.val] 62)).alloc (.cells #[.int .i64 0, .slice none 0 0, .slice none 0 0, .slice none 0 0] 69)).alloc (.cells #[.int .i64 0, .slice none 0 0, .slice none 0 0, .slice none 0 0] 69)).heap.size = w.heap.size + 1 + 1 + 1 := by simp
  have hb1 := (Bk.made (w.alloc (.cells #[.int .i64 1, .int .i64 o.who.role, .int .i64 o.who.why, .int .i64 o.who.time, .slice B1 o.rules.length e1, .string o.r.id, .int .i64 o.r.cats, .slice B2 o.r.fields.length e2, .slice B3 o.r.refs.length e3, .string o.id, .string o.f.key, .string o.f.val] 62)) [.int .i64 0, .slice none 0 0, .slice none 0 0, .slice none 0 0] 69).alloc (.cells #[.int .i64 0, .slice none 0 0, .slice none 0 0, .slice none 0 0] 69)
  have hb2 := Bk.made ((w.alloc (.cells #[.int .i64 1, .int .i64 o.who.role, .int .i64 o.who.why, .int .i64 o.who.time, .slice B1 o.rules.length e1, .string o.r.id, .int .i64 o.r.cats, .slice B2 o.r.fields.length e2, .slice B3 o.r.refs.length e3, .string o.id, .string o.f.key, .string o.f.val] 62)).alloc (.cells #[.int .i64 0, .slice none 0 0, .slice none 0 0, .slice none 0 0] 69)) [.int .i64 0, .slice none 0 0, .slice none 0 0, .slice none 0 0] 69
  rw [show (w.alloc (.cells #[.int .i64 1, .int .i64 o.who.role, .int .i64 o.who.why, .int .i64 o.who.time, .slice B1 o.rules.length e1, .string o.r.id, .int .i64 o.r.cats, .slice B2 o.r.fields.length e2, .slice B3 o.r.refs.length e3, .string o.id, .string o.f.key, .string o.f.val] 62)).heap.size = w.heap.size + 1 by simp] at hb1
  rw [show ((w.alloc (.cells #[.int .i64 1, .int .i64 o.who.role, .int .i64 o.who.why, .int .i64 o.who.time, .slice B1 o.rules.length e1, .string o.r.id, .int .i64 o.r.cats, .slice B2 o.r.fields.length e2, .slice B3 o.r.refs.length e3, .string o.id, .string o.f.key, .string o.f.val] 62)).alloc (.cells #[.int .i64 0, .slice none 0 0, .slice none 0 0, .slice none 0 0] 69)).heap.size = w.heap.size + 1 + 1 by simp] at hb2
  have HS := Aside.mk ((h.more (F' := fun k => F k ∧ k < w.heap.size) fun k hk hl => ⟨hk, hl⟩).below hb0)
  have HR := Aside.mk (And.intro hf.1 ((hf.mono (ok' := fun k => ok1 k ∧ k < w.heap.size) fun k h1 h2 => ⟨h1, h2⟩).below hb0))
  have HQ0 := Aside.mk (((Bk.made w [.int .i64 1, .int .i64 o.who.role, .int .i64 o.who.why, .int .i64 o.who.time, .slice B1 o.rules.length e1, .string o.r.id, .int .i64 o.r.cats, .slice B2 o.r.fields.length e2, .slice B3 o.r.refs.length e3, .string o.id, .string o.f.key, .string o.f.val] 62).alloc (.cells #[.int .i64 0, .slice none 0 0, .slice none 0 0, .slice none 0 0] 69)).alloc (.cells #[.int .i64 0, .slice none 0 0, .slice none 0 0, .slice none 0 0] 69))
  have HQ1 := Aside.mk hb1
  have HQ2 := Aside.mk hb2
  have HZ := Aside.mk hz
  have HB := Aside.mk hb0
  have HGL := Aside.mk hgl
  have HE := Aside.mk h0
  have HLN := Aside.mk (show o.rules.length * 48 ≤ 140737488355328 by have := (rules_ok h0).1; omega)
  have HFF := Aside.mk hF
  clear h hf hb0 hb1 hb2 hz hgl h0 hF
  unfold opVal
  rw [hk]
  go_enter Try.func33, Try.ntmps33
  go_wp2_with fail
  refine (ruleCheck _ _ o.rules _ _ HR.out.2 HR.out.1).mono ?_
  rw [HE.out]
  rintro e w1 ⟨rfl, hb⟩
  have q0 : w1.cell? ⟨w.heap.size, 4, none⟩ = some (.slice B1 o.rules.length e1) := (HQ0.out.below hb).cell 4
  have q1 := (HQ1.out.below hb).four
  have q2 := (HQ2.out.below hb).four
  have HP1 := Aside.mk ((HQ1.out.below hb).other (o := 0) (show w.heap.size + 1 ≠ w.heap.size + 1 + 1 by omega) (.int .i64 0))
  have HP2 := Aside.mk ((HQ2.out.below hb).set 0 (.int .i64 0))
  have HS1 := Aside.mk ((HS.out.below hb).move (w' := w1.setCell ⟨w.heap.size + 1 + 1, 0, none⟩ (.int .i64 0)) (Below.heap_setCell _ _ _ g (by have := HGL.out; show g ≠ w.heap.size + 1 + 1; omega)) fun k hk _ => Below.heap_setCell _ _ _ k (by have := hk.2; show k ≠ w.heap.size + 1 + 1; omega))
  have HR1 := Aside.mk ((HR.out.2.below hb).move (w1 := w1.setCell ⟨w.heap.size + 1 + 1, 0, none⟩ (.int .i64 0)) fun k hk _ => Below.heap_setCell _ _ _ k (by have := hk.2; show k ≠ w.heap.size + 1 + 1; omega))
  have HG1 := Aside.mk (grown_new (below_grown (below_step HB.out hb) (some g)) (show w.heap.size ≤ w.heap.size + 1 + 1 by omega) 0 (.int .i64 0))
  clear hb
  go_wp2_with fail
  refine (cloneR _ _ o.rules _ _ HR1.out HLN.out).mono ?_
  rintro e w2 ⟨v, rfl, ho, hb⟩
  have hs := (own_rul ho).sl
  have hsz := HG1.out.size
  have HV := Aside.mk (hs.mono (ok' := fun k => (F k ∧ k < w.heap.size) ∨ (w.heap.size ≤ k ∧ k ≠ g ∧ k ≠ w.heap.size + 1)) fun k hk _ => .inr (hk.elim False.elim fun h => by
    have h1 := (ho.lt k h).1
    have h2 := HP1.out.lt
    have h3 := HGL.out
    omega))
  have p1 := (HP1.out.below hb).four
  have p2 := (HP2.out.below hb).four
  have HS2 := Aside.mk ((HS1.out.below hb).more (F' := fun k => (F k ∧ k < w.heap.size) ∨ (w.heap.size ≤ k ∧ k ≠ g ∧ k ≠ w.heap.size + 1)) fun k hk _ => .inl hk)
  have HG2 := Aside.mk (HG1.out.trans (below_grown hb (some g)))
  obtain ⟨_, _, _, _, _, _, _, _, hbk, _⟩ := HS2.out
  have p3 := hbk.four
  obtain ⟨X, d, rfl⟩ := Sl.form hs
  clear hs ho hb hbk hsz q0 q1 q2
  have n1 : w.heap.size + 1 + 1 ≠ g := by have := HGL.out; omega
  have n2 : g ≠ w.heap.size + 1 + 1 := fun e => n1 e.symm
  have n3 : w.heap.size + 1 ≠ g := by have := HGL.out; omega
  have n4 : g ≠ w.heap.size + 1 := fun e => n3 e.symm
  go_wp2_with fail
  refine bodyPost_ret (v := .agg #[.int .i64 0, .slice none 0 0, .slice none 0 0, .slice none 0 0]) ?_ rfl ⟨rfl, ?_, ?_⟩
  · simp [results, Try.results33, go_sem, p1]
  · refine (SrvIs.move (HS2.out.setR (fun k hk => hk.elim (fun h => HFF.out k h.1) fun h => h.2.1) HV.out) (sets4 (by have := HGL.out; omega)) fun k hk _ => sets4 ?_).more fun k hk _ => hk.imp (fun h => h.1) fun h => h.1
    have := HGL.out
    rcases hk with hk | hk
    · have := hk.2; omega
    · exact hk.2.2
  · exact grown_new (grown_new (grown_new (grown_new (HG2.out.trans (grown_set _ _ _ _)) (by omega) _ _) (by omega) _ _) (by omega) _ _) (by omega) _ _
end Go.Proofs.WK
