/-
  store.Put, store.Cut (P22, P23).
-/
import Derived.Test.YtljjiicjnoljbaaStoCp
namespace Go.Proofs.WK
open Go.RowKit Rp
abbrev Kr (w : World) (g : Nat) (a b c d : Value) : Prop :=
  w.cell? { block := g, off := 0 } = some a ∧ w.cell? { block := g, off := 1 } = some b ∧ w.cell? { block := g, off := 2 } = some c ∧ w.cell? { block := g, off := 3 } = some d ∧ Aside (Bk w g [a, b, c, d])
theorem Kr.of {w : World} {g : Nat} {a b c d : Value} (h : Bk w g [a, b, c, d]) : Kr w g a b c d := ⟨h.cell 0, h.cell 1, h.cell 2, h.cell 3, ⟨h⟩⟩
theorem Kr.bk {w : World} {g : Nat} {a b c d : Value} (h : Kr w g a b c d) : Bk w g [a, b, c, d] := h.2.2.2.2.out
theorem Kr.step {w w' : World} {g : Nat} {a b c d : Value} (h : Kr w g a b c d) (hb : Below w.heap.size w w') : Kr w' g a b c d := .of (h.bk.below hb)
theorem Kr.al {w : World} {g : Nat} {a b c d : Value} (h : Kr w g a b c d) (o : Obj) : Kr (w.alloc o) g a b c d := h.step ((Below.refl _ _).alloc (Nat.le_refl _) _)
theorem Kr.grown {w w' : World} {g : Nat} {a b c d : Value} {row : Option Nat} (h : Kr w g a b c d) (hg : w.grownBy w' row) (hne : some g ≠ row) : Kr w' g a b c d := .of (h.bk.grown hg hne)
theorem Sl.of {α : Type} {d : Rp α} {w : World} {ok : Nat → Prop} {A : Option Addr} {c : Nat} {xs : List α} (h : d.Row w ok A xs) (hc : xs.length ≤ c) : d.Sl w ok (.slice A xs.length c) xs := ⟨A, c, rfl, hc, h⟩
theorem put_small {l : List Ver} {x : Ver} (h : storeErr l = 0) (hx : x.r.fields.length ≤ 6 ∧ x.r.refs.length ≤ 4) : (l ++ [x]).length ≤ 6000 ∧ ∀ v ∈ l ++ [x], v.r.fields.length ≤ 6 ∧ v.r.refs.length ≤ 4 := by
  refine ⟨by have := (store_ok h).1; simp; omega, fun v hv => ?_⟩
  rcases List.mem_append.1 hv with h1 | h1
  · have := rec_ok (store_rec h v h1)
    exact ⟨this.2.2.2.1, this.2.2.2.2.1⟩
  · rw [List.mem_singleton.1 h1]; exact hx
/-- Behind the clone: the row is the call's own, and the version to come can be laid beside it. -/
theorem mid_of {w3 w4 : World} {e n B N : Nat} {v4 : Value} {l : List Ver} {x : Ver} {cl : List Value} {ok : Nat → Prop} (hb : Below w3.heap.size w3 w4) (hB : w3.heap.size ≤ B) (ho : verR.Own e w4 B ok v4 l) (hp : verR.K w3 (fun k => k < n) x cl) (hN : N < w3.heap.size) (_hn : n ≤ w3.heap.size) :
    verR.Own e w4 w3.heap.size (fun _ => True) v4 l ∧ (∀ W, Below w4.heap.size w4 W → verR.K W (fun k => True ∧ some k ≠ v4.ownBlock) x cl) ∧ some N ≠ v4.ownBlock ∧ w3.heap.size ≤ w4.heap.size := by
  refine ⟨?_, fun W hW => ?_, fun h => by have := (ho.lt _ h.symm).1; omega, hb.size⟩
  · obtain ⟨inner, h1, h2⟩ := ho.mono (ok' := fun _ => True) fun _ _ _ => trivial
    refine ⟨inner, ⟨h1.1, ?_⟩, h2⟩
    rcases h1.2 with h | ⟨g, cap, cur, a, b, r⟩
    · exact .inl h
    · exact .inr ⟨g, cap, cur, a, Nat.le_trans hB b, r⟩
  · refine verR.move (w := w4) (fun k _ hk => hW.block k hk) ?_
    refine verR.move (w := w3) (fun k _ hk => hb.block k hk) ?_
    exact verR.mono (fun k hk _ => ⟨trivial, fun h => by have := (ho.lt _ h.symm).1; omega⟩) hp
set_option maxHeartbeats 4000000 in
set_option maxRecDepth 100000 in
theorem storePut (A : Option Addr) (c : Nat) (l : List Ver) (r : Rec) (A1 A2 : Option Addr) (c1 c2 : Nat) (ok ok1 ok2 : Nat → Prop) (w : World) (hr : verR.Row w ok A l) (hc : l.length ≤ c)
    (hf : fldR.Row w ok1 A1 r.fields) (hc1 : r.fields.length ≤ c1) (hg : str.Row w ok2 A2 r.refs) (hc2 : r.refs.length ≤ c2) :
    Calls Try.prog 68 #[.slice A l.length c, .agg #[.string r.id, .int .i64 r.cats, .slice A1 r.fields.length c1, .slice A2 r.refs.length c2]] w fun e w' => ∃ v, e = .returned (.tuple #[v, .int .i64 (putErr l r)]) ∧
      verR.Sl w' (fun k => w.heap.size ≤ k) v (putV l r) ∧ Below w.heap.size w w' := by
  have hb1 : Below w.heap.size w (w.alloc (.cells (recC r A1 A2 c1 c2).toArray 58)) := (Below.refl _ _).alloc (Nat.le_refl _) _
  have HR := Aside.mk (hr.below hb1)
  have HF := Aside.mk ((hf.mono (ok' := fun k => k < w.heap.size) fun _ _ h => h).below hb1)
  have HG := Aside.mk ((hg.mono (ok' := fun k => k < w.heap.size) fun _ _ h => h).below hb1)
  have HQ := Aside.mk (Bk.made w (recC r A1 A2 c1 c2) 58)
  have HB := Aside.mk hb1
  clear hr hf hg hb1
  by_cases h1 : storeErr l = 0
  · have e1 : putErr l r = if recErr r ≠ 0 then recErr r else if 20 ≤ sameN l r.cats then 2 else 0 := by rw [putErr, if_neg (by simpa using h1)]
    have H1 := Aside.mk h1
    by_cases h2 : recErr r = 0
    · have e2 : putErr l r = if 20 ≤ sameN l r.cats then 2 else 0 := by rw [e1, if_neg (by simpa using h2)]
      have H2 := Aside.mk h2
      have hs := store_same h1 r.cats
      clear e1 h1 h2
      by_cases h3 : 20 ≤ sameN l r.cats
      · have e3 : putErr l r = 2 := by rw [e2, if_pos h3]
        have e4 : putV l r = [] := by rw [putV, e3]; rfl
        have g3 : (((sameN l r.cats : Nat) : Int) == 20) = true := by simp; omega
        rw [e3, e4]
        clear e2 e3 e4 h3 hs
        go_enter Try.func68, Try.ntmps68
        go_wp2_with fail
        refine (storeCheck _ c l _ _ HR.out hc).mono ?_
        rw [H1.out]
        rintro e w1 ⟨rfl, hb⟩
        have q1 := (HQ.out.below hb).four
        have HF1 := Aside.mk (HF.out.below hb)
        have HG1 := Aside.mk (HG.out.below hb)
        have HQ1 := Aside.mk (HQ.out.below hb)
        have HR1 := Aside.mk (HR.out.below hb)
        have HB1 := Aside.mk (below_step HB.out hb)
        clear HR HF HG HQ HB hb
        go_wp2_with fail
        refine (recCheck r _ _ _ _ _ _ _ HF1.out HG1.out).mono ?_
        rw [H2.out]
        rintro e w2 ⟨rfl, hb⟩
        clear q1
        have q1 := (HQ1.out.below hb).four
        have HR2 := Aside.mk (HR1.out.below hb)
        have HB2 := Aside.mk (below_step HB1.out hb)
        clear hb
        go_wp2_with fail
        refine (storeMany _ _ _ l r.cats _ _ HR2.out rfl).mono ?_
        rintro e w3 ⟨rfl, hb⟩
        have HB3 := Aside.mk (below_step HB2.out hb)
        clear hb
        go_wp2_with fail
        go_ret2
        exact ⟨_, rfl, Sl.nil _ _ _, HB3.out⟩
      · have e3 : putErr l r = 0 := by rw [e2, if_neg h3]
        have e4 : putV l r = l ++ [⟨r, false⟩] := by rw [putV, if_pos e3]
        have g3 : (((sameN l r.cats : Nat) : Int) == 20) = false := by simp; omega
        have hsm := put_small (x := ⟨r, false⟩) H1.out ⟨(rec_ok H2.out).2.2.2.1, (rec_ok H2.out).2.2.2.2.1⟩
        have HSM := Aside.mk hsm
        have HL := Aside.mk (show l.length * 80 ≤ 140737488355328 ∧ (l.length + 1) * 80 ≤ 140737488355328 by have := (store_ok H1.out).1; omega)
        rw [e3, e4]
        clear e2 e3 e4 h3 hs hsm
        go_enter Try.func68, Try.ntmps68
        go_wp2_with fail
        refine (storeCheck _ c l _ _ HR.out hc).mono ?_
        rw [H1.out]
        rintro e w1 ⟨rfl, hb⟩
        have q1 := (HQ.out.below hb).four
        have HF1 := Aside.mk (HF.out.below hb)
        have HG1 := Aside.mk (HG.out.below hb)
        have HQ1 := Aside.mk (HQ.out.below hb)
        have HR1 := Aside.mk (HR.out.below hb)
        have HB1 := Aside.mk (below_step HB.out hb)
        clear HR HF HG HQ HB hb
        go_wp2_with fail
        refine (recCheck r _ _ _ _ _ _ _ HF1.out HG1.out).mono ?_
        rw [H2.out]
        rintro e w2 ⟨rfl, hb⟩
        clear q1
        have q1 := (HQ1.out.below hb).four
        have HF2 := Aside.mk (HF1.out.below hb)
        have HG2 := Aside.mk (HG1.out.below hb)
        have HQ2 := Aside.mk (HQ1.out.below hb)
        have HR2 := Aside.mk (HR1.out.below hb)
        have HB2 := Aside.mk (below_step HB1.out hb)
        clear HR1 HF1 HG1 HQ1 HB1 hb
        go_wp2_with fail
        refine (storeMany _ _ _ l r.cats _ _ HR2.out rfl).mono ?_
        rintro e w3 ⟨rfl, hb⟩
        clear q1
        have HF3 := Aside.mk (HF2.out.below hb)
        have HG3 := Aside.mk (HG2.out.below hb)
        have HQ3 := Aside.mk (Kr.of (HQ2.out.below hb))
        have HR3 := Aside.mk (HR2.out.below hb)
        have HB3 := Aside.mk (below_step HB2.out hb)
        clear HR2 HF2 HG2 HQ2 HB2 hb
        go_wp2_with fail
        have q0 := HQ3.out
        have HW : Aside (∀ k N, k < w.heap.size → N = w3.heap.size → k < N) := ⟨fun k N h e => by have := HB3.out.size; omega⟩
        go_region_held3 (fun w' => w'.cell? { block := w.heap.size, off := 0 } = some (.string r.id) ∧ w'.cell? { block := w.heap.size, off := 1 } = some (.int .i64 r.cats) ∧ w'.cell? { block := w.heap.size, off := 2 } = some (.slice A1 r.fields.length c1) ∧
            w'.cell? { block := w.heap.size, off := 3 } = some (.slice A2 r.refs.length c2) ∧ Aside (Bk w' w.heap.size [.string r.id, .int .i64 r.cats, .slice A1 r.fields.length c1, .slice A2 r.refs.length c2]))
          (first | exact HQ3.out | assumption | exact Kr.al (by assumption) _)
          (first
           | (go_at_call 84; refine (cloneV A c l ok _ (HR3.out.below (by first | exact below_drewN (Below.refl _ _) 1 | exact (below_drewN (Below.refl _ _) 1).alloc (Nat.le_refl _) _)) HL.out.1).mono ?_; rintro e w4 ⟨v4, rfl, ho, hb⟩
              have hb4 : Below w3.heap.size w3 w4 := below_step (by first | exact below_drewN (Below.refl _ _) 1 | exact (below_drewN (Below.refl _ _) 1).alloc (Nat.le_refl _) _) hb
              have hx := Kr.step HQ3.out hb4
              have HM := Aside.mk (mid_of (x := ⟨r, false⟩) (cl := [.string r.id, .int .i64 r.cats, .slice A1 r.fields.length c1, .slice A2 r.refs.length c2, .bool false]) hb4 (by first | exact Nat.le_refl _ | simp) ho
                (verK.2 ⟨_, _, rfl, Sl.of HF3.out hc1, Sl.of HG3.out hc2⟩) HQ3.out.bk.lt (Nat.le_of_lt HQ3.out.bk.lt))
              have HBK := Aside.mk hb
              have HB4 := Aside.mk (below_step HB3.out hb4)
              clear hb hb4 ho)
           | ((refine step_one (w0 := w4) verR w3.heap.size (by rfl) (.tmp 24) (.tmp 27) 66 129 _ 80 (by rfl) Try.underlying66 infoV (by rfl) (by decide) (by decide) v4 l ⟨r, false⟩ [.string r.id, .int .i64 r.cats, .slice A1 r.fields.length c1, .slice A2 r.refs.length c2, .bool false] (fun _ => True) w4.heap.size 1 (by rfl) (by rfl) (blk_new w4 _ _) (HM.out.2.1 _ ((Below.refl _ _).alloc (Nat.le_refl _) _)) (HM.out.1.below ((Below.refl _ _).alloc (Nat.le_refl _) _)) ((Below.refl _ _).alloc HM.out.2.2.2 _) (Nat.le_trans HM.out.2.2.2 (by simp)) HL.out.2 ?_); intro v5 w5 HO5 HB5 hg5 hat5; have hy := Kr.grown (Kr.al hx _) hg5 HM.out.2.2.1; have HO5' := Aside.mk HO5; have HB5' := Aside.mk (HB4.out.grown (World.grownBy.trans (World.grownBy_alloc w4 _ _) hg5) HB4.out.size (fun k hk => Nat.le_trans HB3.out.size (HM.out.1.lt k hk).1)); obtain ⟨A5, c5, rfl⟩ := Sl.form HO5.sl; clear HO5 HB5 hg5 hat5)
           | ((refine step_one (w0 := w4) verR w3.heap.size (by rfl) (.tmp 24) (.tmp 27) 66 129 _ 80 (by rfl) Try.underlying66 infoV (by rfl) (by decide) (by decide) v4 l ⟨r, false⟩ [.string r.id, .int .i64 r.cats, .slice A1 r.fields.length c1, .slice A2 r.refs.length c2, .bool false] (fun _ => True) w3.heap.size 1 (by rfl) (by rfl) ⟨_, _, (HBK.out.block w3.heap.size (by simp)).trans (heap_alloc_new (w3.drewN 1) _)⟩ (HM.out.2.1 _ (Below.refl _ _)) HM.out.1 (Below.refl _ _) HM.out.2.2.2 HL.out.2 ?_); intro v5 w5 HO5 HB5 hg5 hat5; have hy := Kr.grown hx hg5 HM.out.2.2.1; have HO5' := Aside.mk HO5; have HB5' := Aside.mk (HB4.out.grown hg5 HB4.out.size (fun k hk => Nat.le_trans HB3.out.size (HM.out.1.lt k hk).1)); obtain ⟨A5, c5, rfl⟩ := Sl.form HO5.sl; clear HO5 HB5 hg5 hat5)
           | (go_at_call 82; refine (storeCopied A5 _ c5 (l ++ [⟨r, false⟩]) _ _ HO5'.out.row.2.2 (by simp) HSM.out.1 HSM.out.2).mono ?_; rintro e w6 ⟨v6, rfl, ho, hb⟩
              have hz := Kr.step hy hb
              have HO6 := Aside.mk (And.intro ho hb)
              clear ho hb))
        all_goals
          go_wp2
          go_ret2
          exact ⟨_, rfl, (Own.sl_new HO6.out.1).mono fun k hk _ => Nat.le_trans HB5'.out.size hk, below_step HB5'.out HO6.out.2⟩
    · have e3 : putErr l r = recErr r := by rw [e1, if_pos h2]
      have e4 : putV l r = [] := by rw [putV, e3, if_neg h2]
      have g3 : (recErr r != 0) = true := by simp [h2]
      rw [e3, e4]
      clear e1 e3 e4 h1 h2
      go_enter Try.func68, Try.ntmps68
      go_wp2_with fail
      refine (storeCheck _ c l _ _ HR.out hc).mono ?_
      rw [H1.out]
      rintro e w1 ⟨rfl, hb⟩
      have q1 := (HQ.out.below hb).four
      have HF1 := Aside.mk (HF.out.below hb)
      have HG1 := Aside.mk (HG.out.below hb)
      have HB1 := Aside.mk (below_step HB.out hb)
      clear HR HF HG HQ HB hb
      go_wp2_with fail
      refine (recCheck r _ _ _ _ _ _ _ HF1.out HG1.out).mono ?_
      rintro e w2 ⟨rfl, hb⟩
      have HB2 := Aside.mk (below_step HB1.out hb)
      clear hb
      go_wp2_with fail
      go_ret2
      exact ⟨_, rfl, Sl.nil _ _ _, HB2.out⟩
  · have e3 : putErr l r = storeErr l := by rw [putErr, if_pos h1]
    have e4 : putV l r = [] := by rw [putV, e3, if_neg h1]
    have g3 : (storeErr l != 0) = true := by simp [h1]
    rw [e3, e4]
    clear e3 e4 h1
    go_enter Try.func68, Try.ntmps68
    go_wp2_with fail
    refine (storeCheck _ c l _ _ HR.out hc).mono ?_
    rintro e w1 ⟨rfl, hb⟩
    have HB1 := Aside.mk (below_step HB.out hb)
    clear HR HF HG HQ HB hb
    go_wp2_with fail
    go_ret2
    exact ⟨_, rfl, Sl.nil _ _ _, HB1.out⟩
end Go.Proofs.WK
