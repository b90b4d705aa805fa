/-
  record.Copied: the same record, in memory of the call's own.
-/
import Derived.Test.YtljjiicjnoljbaaClone
import Derived.Test.YtljjiicjnoljbaaRecC
import Derived.Deep.RegionWith
namespace Go.Proofs.WK
open Go.RowKit Rp
theorem fld_flat {w : World} {ok ok' : Nat → Prop} {e base : Nat} {v : Value} {xs : List Fld} (h : fldR.Own e w base ok v xs) : fldR.Own e w base ok' v xs := h
theorem str_flat {w : World} {ok ok' : Nat → Prop} {e base : Nat} {v : Value} {xs : List ByteArray} (h : str.Own e w base ok v xs) : str.Own e w base ok' v xs := h
theorem sets6 {w2 : World} {n m k : Nat} {a b c d e f : Value} (h1 : k ≠ n) (h2 : k ≠ m) : ((((((w2.setCell ⟨n, 2, none⟩ a).setCell ⟨n, 3, none⟩ b).setCell ⟨m, 0, none⟩ c).setCell ⟨m, 1, none⟩ d).setCell ⟨m, 2, none⟩ e).setCell ⟨m, 3, none⟩ f).heap[k]? = w2.heap[k]? := by
  rw [Below.heap_setCell _ _ _ k h2, Below.heap_setCell _ _ _ k h2, Below.heap_setCell _ _ _ k h2, Below.heap_setCell _ _ _ k h2, Below.heap_setCell _ _ _ k h1, Below.heap_setCell _ _ _ k h1]
set_option maxHeartbeats 4000000 in
set_option maxRecDepth 100000 in
theorem recCopied (r : Rec) (A1 A2 : Option Addr) (c1 c2 : Nat) (ok ok' : Nat → Prop) (w : World) (hf : fldR.Row w ok A1 r.fields) (hg : str.Row w ok' A2 r.refs) (l1 : r.fields.length ≤ 6) (l2 : r.refs.length ≤ 4) :
    Calls Try.prog 109 #[.agg #[.string r.id, .int .i64 r.cats, .slice A1 r.fields.length c1, .slice A2 r.refs.length c2]] w fun e w' => ∃ v1 v2, e = .returned (.agg #[.string r.id, .int .i64 r.cats, v1, v2]) ∧
      fldR.Sl w' (fun k => w.heap.size ≤ k) v1 r.fields ∧ str.Sl w' (fun k => w.heap.size ≤ k) v2 r.refs ∧ Below w.heap.size w w' := by
  have hb1 : Below w.heap.size w ((w.alloc (.cells (recC r A1 A2 c1 c2).toArray 58)).alloc (.cells #[.string ⟨#[]⟩, .int .i64 0, .slice none 0 0, .slice none 0 0] 58)) := ((Below.refl _ _).alloc (Nat.le_refl _) _).alloc (by simp) _
  have HF := Aside.mk (hf.below hb1)
  have HG := Aside.mk (hg.below hb1)
  have HQ := Aside.mk ((Bk.made w (recC r A1 A2 c1 c2) 58).alloc (.cells #[.string ⟨#[]⟩, .int .i64 0, .slice none 0 0, .slice none 0 0] 58))
  have HB := Aside.mk hb1
  have HP := Aside.mk (Bk.made (w.alloc (.cells (recC r A1 A2 c1 c2).toArray 58)) [.string ⟨#[]⟩, .int .i64 0, .slice none 0 0, .slice none 0 0] 58)
  rw [show (w.alloc (.cells (recC r A1 A2 c1 c2).toArray 58)).heap.size = w.heap.size + 1 from by simp] at HP
  have l1' : r.fields.length * 32 ≤ 140737488355328 := by omega
  have l2' : r.refs.length * 16 ≤ 140737488355328 := by omega
  clear hf hg hb1 l1 l2
  go_enter Try.func109, Try.ntmps109
  go_wp2_with fail
  generalize hW : (w.alloc (.cells (recC r A1 A2 c1 c2).toArray 58)).alloc (.cells #[.string ⟨#[]⟩, .int .i64 0, .slice none 0 0, .slice none 0 0] 58) = w0 at HF HG HQ HB HP ⊢
  clear hW
  have q0 := HQ.out.four
  go_region_with (first
    | (go_at_call 119; refine (cloneF A1 c1 r.fields ok _ (HF.out.below (below_drewN (Below.refl _ _) 1)) l1').mono ?_; rintro e w1 ⟨v1, rfl, ho, hb⟩; obtain ⟨A3, c3, rfl, _, _⟩ := ho.sl
       have q1 := (HQ.out.below (below_step (below_drewN (Below.refl _ _) 1) hb)).four
       have HX := Aside.mk (And.intro ho (below_step (below_drewN (Below.refl _ _) 1) hb)); clear ho hb)
    | (go_at_call 56; refine (cloneSt A2 c2 r.refs ok' _ (HG.out.below HX.out.2) l2').mono ?_; rintro e w2 ⟨v2, rfl, ho, hb⟩; obtain ⟨A4, c4, rfl, _, _⟩ := ho.sl
       have q2 := (HQ.out.below (below_step HX.out.2 hb)).four
       have q3 := (HP.out.below (below_step HX.out.2 hb)).four
       have HY := Aside.mk (And.intro ho hb); clear ho hb))
  all_goals
    have q4 : w.heap.size ≤ w0.heap.size ∧ w.heap.size + 1 < w0.heap.size := ⟨HB.out.size, HP.out.lt⟩
    have HZ : Aside (∀ k, w0.heap.size ≤ k → k ≠ w.heap.size ∧ k ≠ w.heap.size + 1 ∧ w.heap.size ≤ k) := ⟨fun k hk => by omega⟩
    clear q0 q1 q4 HF HG HQ HP l1' l2'
    go_wp2
    refine bodyPost_ret (v := .agg #[.string r.id, .int .i64 r.cats, .slice A3 r.fields.length c3, .slice A4 r.refs.length c4]) ?_ rfl ⟨_, _, rfl, ?_, ?_, ?_⟩
    · simp [results, Try.results109, go_sem, q3]
    · have h1 := (fld_flat (ok' := fun _ => False) HX.out.1).sl.mono (ok' := fun k => w0.heap.size ≤ k) fun k hk _ => hk.elim (fun h => h.elim) fun h2 => (HX.out.1.lt k h2).1
      exact ((h1.below HY.out.2).move fun k hk _ => sets6 (HZ.out k hk).1 (HZ.out k hk).2.1).mono fun k hk _ => (HZ.out k hk).2.2
    · have h1 := (str_flat (ok' := fun _ => False) HY.out.1).sl.mono (ok' := fun k => w0.heap.size ≤ k) fun k hk _ => hk.elim (fun h => h.elim) fun h2 => Nat.le_trans HX.out.2.size (HY.out.1.lt k h2).1
      exact (h1.move fun k hk _ => sets6 (HZ.out k hk).1 (HZ.out k hk).2.1).mono fun k hk _ => (HZ.out k hk).2.2
    · have hb := below_step HB.out (below_step HX.out.2 HY.out.2)
      exact below_set (below_set (below_set (below_set (below_set (below_set hb (Nat.le_refl _) _) (Nat.le_refl _) _) (Nat.le_succ _) _) (Nat.le_succ _) _) (Nat.le_succ _) _) (Nat.le_succ _) _
end Go.Proofs.WK
