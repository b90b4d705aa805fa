/-
  store.Copied: the same versions, in memory of the call's own.
-/
import Derived.Test.YtljjiicjnoljbaaCopied
import Derived.Test.YtljjiicjnoljbaaStoK
import Derived.Test.YtljjiicjnoljbaaWk0
namespace Go.Proofs.WK
open Go.RowKit Rp
abbrev Kv (w : World) (g : Nat) (a b c d e : Value) : Prop :=
  w.cell? { block := g, off := 0 } = some a ∧ w.cell? { block := g, off := 1 } = some b ∧ w.cell? { block := g, off := 2 } = some c ∧ w.cell? { block := g, off := 3 } = some d ∧ w.cell? { block := g, off := 4 } = some e ∧ Aside (Bk w g [a, b, c, d, e])
theorem Kv.of {w : World} {g : Nat} {a b c d e : Value} (h : Bk w g [a, b, c, d, e]) : Kv w g a b c d e := ⟨h.cell 0, h.cell 1, h.cell 2, h.cell 3, h.cell 4, ⟨h⟩⟩
theorem Kv.bk {w : World} {g : Nat} {a b c d e : Value} (h : Kv w g a b c d e) : Bk w g [a, b, c, d, e] := h.2.2.2.2.2.out
theorem Kv.step {w w' : World} {g : Nat} {a b c d e : Value} (h : Kv w g a b c d e) (hb : Below w.heap.size w w') : Kv w' g a b c d e := .of (h.bk.below hb)
theorem Kv.al {w : World} {g : Nat} {a b c d e : Value} (h : Kv w g a b c d e) (o : Obj) : Kv (w.alloc o) g a b c d e := h.step ((Below.refl _ _).alloc (Nat.le_refl _) _)
theorem Kv.grown {w w' : World} {g : Nat} {a b c d e : Value} {row : Option Nat} (h : Kv w g a b c d e) (hg : w.grownBy w' row) (hne : some g ≠ row) : Kv w' g a b c d e := .of (h.bk.grown hg hne)
theorem Sl.form {α : Type} {d : Rp α} {w : World} {ok : Nat → Prop} {v : Value} {xs : List α} (h : d.Sl w ok v xs) : ∃ A c, v = .slice A xs.length c := by obtain ⟨A, c, rfl, _⟩ := h; exact ⟨A, c, rfl⟩
set_option maxHeartbeats 4000000 in
set_option maxRecDepth 100000 in
theorem storeCopied (A : Option Addr) (n c : Nat) (l : List Ver) (ok : Nat → Prop) (w : World) (hr : verR.Row w ok A l) (hn : l.length = n) (hlen : l.length ≤ 6000) (hok : ∀ v ∈ l, v.r.fields.length ≤ 6 ∧ v.r.refs.length ≤ 4) :
    Calls Try.prog 82 #[.slice A n c] w fun e w' => ∃ v, e = .returned v ∧ verR.Own 129 w' w.heap.size (fun k => w.heap.size ≤ k) v l ∧ Below w.heap.size w w' := by
  subst hn
  have HR := Aside.mk hr
  have HK := Aside.mk hok
  clear hr hok
  go_enter Try.func82, Try.ntmps82
  go_wp2_with fail
  go_loopw [3, 8] (fun x i wr => ∃ k : Nat, k ≤ l.length ∧ i = .int .i64 k ∧ Aside (verR.Own 129 wr w.heap.size (fun k => w.heap.size ≤ k) x (l.take k)) ∧ Aside (Below w.heap.size w wr)) (fun _ i _ => l.length - (intOf i).toNat)
  case atStart => exact ⟨0, Nat.zero_le _, rfl, ⟨Own.nil _ _ _ _ _⟩, ⟨Below.refl _ _⟩⟩
  case round =>
    obtain ⟨k, hk, rfl, HO, HB⟩ := hrel
    by_cases hlt : k < l.length
    · obtain ⟨ad, A1, c1, A2, c2, rfl, _, x0, x1, x2, x3, x4, _, _, r1, r2⟩ := ver_at (HR.out.below HB.out) hlt
      have hal : Below wr.heap.size wr (wr.alloc (.cells #[.string l[k].r.id, .int .i64 l[k].r.cats, .slice A1 l[k].r.fields.length c1, .slice A2 l[k].r.refs.length c2, .bool l[k].gone] 129)) := (Below.refl _ _).alloc (Nat.le_refl _) _
      have HQ := Aside.mk (Kv.of (Bk.made wr [.string l[k].r.id, .int .i64 l[k].r.cats, .slice A1 l[k].r.fields.length c1, .slice A2 l[k].r.refs.length c2, .bool l[k].gone] 129))
      have HO1 := Aside.mk (HO.out.below hal)
      have HB1 := Aside.mk (below_step HB.out hal)
      have R1 := Aside.mk (r1.below hal)
      have R2 := Aside.mk (r2.below hal)
      obtain ⟨m1, m2⟩ := HK.out l[k] (List.getElem_mem hlt)
      have HT := Aside.mk (show l.take (k + 1) = l.take k ++ [l[k]] from List.take_succ_eq_append_getElem hlt)
      clear hal r1 r2
      go_wp2_with fail
      generalize hW : wr.alloc (.cells #[.string l[k].r.id, .int .i64 l[k].r.cats, .slice A1 l[k].r.fields.length c1, .slice A2 l[k].r.refs.length c2, .bool l[k].gone] 129) = w0 at HQ HO1 HB1 R1 R2 ⊢
      have hgne : Aside (some wr.heap.size ≠ u3.ownBlock) := ⟨fun e => by have := (HO.out.lt _ e.symm).2; omega⟩
      clear hW HO HB
      generalize hG : wr.heap.size = g at HQ hgne ⊢
      clear hG
      have q0 := HQ.out
      have HF : Aside (∀ k : Nat, w0.heap.size ≤ k → ∀ N, k < N → w.heap.size ≤ k ∧ some k ≠ u3.ownBlock) := ⟨fun k hk _ _ => ⟨Nat.le_trans HB1.out.size hk, fun e => by have := (HO1.out.lt _ e.symm).2; omega⟩⟩
      have HL : Aside (((l.take k).length + 1) * 80 ≤ 140737488355328) := ⟨by rw [List.length_take]; omega⟩
      go_region_held3 (fun w' => w'.cell? { block := g, off := 0 } = some (.string l[k].r.id) ∧ w'.cell? { block := g, off := 1 } = some (.int .i64 l[k].r.cats) ∧ w'.cell? { block := g, off := 2 } = some (.slice A1 l[k].r.fields.length c1) ∧
          w'.cell? { block := g, off := 3 } = some (.slice A2 l[k].r.refs.length c2) ∧ w'.cell? { block := g, off := 4 } = some (.bool l[k].gone) ∧ Aside (Bk w' g [.string l[k].r.id, .int .i64 l[k].r.cats, .slice A1 l[k].r.fields.length c1, .slice A2 l[k].r.refs.length c2, .bool l[k].gone]))
        (first | exact HQ.out | assumption | exact Kv.al (by assumption) _)
        (first
         | (go_at_call 109; refine (recCopied l[k].r A1 A2 c1 c2 ok ok _ (R1.out.below (below_drewN (Below.refl _ _) 1)) (R2.out.below (below_drewN (Below.refl _ _) 1)) m1 m2).mono ?_; rintro e w2 ⟨v1, v2, rfl, s1, s2, hb⟩
            obtain ⟨A3, c3, rfl⟩ := Sl.form s1; obtain ⟨A4, c4, rfl⟩ := Sl.form s2
            have hb2 := below_step (below_drewN (Below.refl _ _) 1) hb
            have hx := Kv.step HQ.out hb2
            have HO2 := Aside.mk (HO1.out.below hb2)
            have HB2 := Aside.mk (below_step HB1.out hb2)
            have HP : Aside (∀ o : Obj, verR.K (w2.alloc o) (fun k => w.heap.size ≤ k ∧ some k ≠ u3.ownBlock) l[k] [.string l[k].r.id, .int .i64 l[k].r.cats, .slice A3 l[k].r.fields.length c3, .slice A4 l[k].r.refs.length c4, .bool l[k].gone]) :=
              ⟨fun o => verK.2 ⟨_, _, rfl, (s1.mono fun k hk _ => HF.out k hk (k + 1) (Nat.lt_succ_self k)).below ((Below.refl _ _).alloc (Nat.le_refl _) _), (s2.mono fun k hk _ => HF.out k hk (k + 1) (Nat.lt_succ_self k)).below ((Below.refl _ _).alloc (Nat.le_refl _) _)⟩⟩
            clear hb hb2 s1 s2)
         | ((refine step_one (w0 := w) verR w.heap.size (by rfl) (.tmp 12) (.tmp 19) 66 129 _ 80 (by rfl) Try.underlying66 infoV (by rfl) (by decide) (by decide) u3 (l.take k) l[k] [.string l[k].r.id, .int .i64 l[k].r.cats, .slice A3 l[k].r.fields.length c3, .slice A4 l[k].r.refs.length c4, .bool l[k].gone] (fun k => w.heap.size ≤ k) w2.heap.size 1 (by rfl) (by rfl) (blk_new w2 _ _) (HP.out _) (HO2.out.below ((Below.refl _ _).alloc (Nat.le_refl _) _)) (HB2.out.alloc HB2.out.size _) (Nat.le_trans HB2.out.size (by simp)) HL.out ?_); intro v1 w3 HO3 HB3 hg3 hat3; have hy := Kv.grown (Kv.al hx _) hg3 hgne.out))
      go_wp2
      refine ⟨⟨k + 1, by omega, by go_num, ⟨by rw [HT.out]; exact HO3⟩, ⟨HB3⟩⟩, by simp [intOf]; omega⟩
    · obtain rfl : k = l.length := by omega
      rw [List.take_length] at HO
      go_wp2_with fail
      go_ret
      exact ⟨_, rfl, HO.out, HB.out⟩
end Go.Proofs.WK
