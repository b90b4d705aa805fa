/-
  wyref.Get, Ids, Seen, Hist (P24 to P27, as the document's answer).
-/
import Derived.Test.YtljjiicjnoljbaaDoorFnd0
import Derived.Test.YtljjiicjnoljbaaDoorBits
namespace Go.Proofs.WK
open Go.RowKit Rp
theorem best_max (l : List Ver) (id : ByteArray) (k : Nat) : max (bestC l id k) (livesI l id k) = bestC l id (k + 1) := rfl
theorem best_if (l : List Ver) (id : ByteArray) (k : Nat) : (if livesI l id k ≤ bestC l id k then bestC l id k else livesI l id k) = bestC l id (k + 1) := by
  rw [← best_max]
  split <;> omega
set_option maxHeartbeats 1600000 in
set_option maxRecDepth 100000 in
theorem refGet (A : Option Addr) (n c : Nat) (l : List Ver) (id : ByteArray) (ok : Nat → Prop) (w : World) (hr : verR.Row w ok A l) (hn : l.length = n) :
    Calls Tryd.prog 41 #[.slice A n c, .string id] w fun e w' => e = .returned (.int .i64 (getI l id)) ∧ Below w.heap.size w w' := by
  subst hn
  have HR := Aside.mk hr
  clear hr
  go_enter Tryd.func41, Tryd.ntmps41
  go_wp2_with fail
  go_loopw [5, 7] (fun x i wr => ∃ k : Nat, k ≤ 256 ∧ i = .int .i64 k ∧ x = .int .i64 (bestC l id k) ∧ Aside (Below w.heap.size w wr)) (fun _ i _ => 256 - (intOf i).toNat)
  case atStart => exact ⟨0, Nat.zero_le _, rfl, rfl, ⟨Below.refl _ _⟩⟩
  case round =>
    obtain ⟨k, hk, rfl, rfl, HB⟩ := hrel
    have HX := Aside.mk (best_max l id k)
    by_cases hlt : k < 256
    · go_wp2_with fail
      refine (refLives A l.length c l id k ok _ (HR.out.below HB.out) rfl).mono ?_
      rintro e w1 ⟨rfl, hb⟩
      have HB1 := Aside.mk (below_step HB.out hb)
      clear hb
      go_wp2_with fail
      all_goals refine ⟨⟨k + 1, by omega, by go_num, by rw [← HX.out], HB1⟩, by simp [intOf]; omega⟩
    · obtain rfl : k = 256 := by omega
      go_wp2_with fail
      go_ret
      exact ⟨rfl, HB.out⟩
/-- What a version's cells are, in a later world, beside a row of the call's own. -/
theorem ver_here' {w W : World} {n : Nat} {ok : Nat → Prop} {v : Value} {x : Ver} {A1 A2 : Option Addr} {c1 c2 : Nat} (h1 : fldR.Row w (fun k => ok k ∧ k < n) A1 x.r.fields) (h2 : str.Row w (fun k => ok k ∧ k < n) A2 x.r.refs) (l1 : x.r.fields.length ≤ c1) (l2 : x.r.refs.length ≤ c2)
    (_hn : n ≤ w.heap.size) (hv : ∀ k, v.ownBlock = some k → n ≤ k) (hb : Below w.heap.size w W) :
    verR.K W (fun k => (ok k ∧ k < n) ∧ some k ≠ v.ownBlock) x [.string x.r.id, .int .i64 x.r.cats, .slice A1 x.r.fields.length c1, .slice A2 x.r.refs.length c2, .bool x.gone] := by
  have hk : ∀ k, (ok k ∧ k < n) → k < w.heap.size → (ok k ∧ k < n) ∧ some k ≠ v.ownBlock := fun k hk _ => ⟨hk, fun e => by have := hv k e.symm; have := hk.2; omega⟩
  exact verK.2 ⟨_, _, rfl, ⟨A1, c1, rfl, l1, (h1.mono hk).move fun k _ h => hb.block k h⟩, ⟨A2, c2, rfl, l2, (h2.mono hk).move fun k _ h => hb.block k h⟩⟩
theorem filter_no {l : List Ver} {k : Nat} (hk : k < l.length) {p : Ver → Bool} (h : p l[k] = false) : (l.take (k + 1)).filter p = (l.take k).filter p := by
  rw [List.take_succ_eq_append_getElem hk, List.filter_append, List.filter_cons, if_neg (by simp [h]), List.filter_nil, List.append_nil]
theorem filter_yes {l : List Ver} {k : Nat} (hk : k < l.length) {p : Ver → Bool} (h : p l[k] = true) : (l.take (k + 1)).filter p = (l.take k).filter p ++ [l[k]] := by
  rw [List.take_succ_eq_append_getElem hk, List.filter_append, List.filter_cons, if_pos h, List.filter_nil]
set_option maxHeartbeats 1600000 in
set_option maxRecDepth 100000 in
theorem refSeen (A : Option Addr) (c : Nat) (l : List Ver) (cats : Int) (ok : Nat → Prop) (w : World) (hr : verR.Row w ok A l) (h0 : storeErr l = 0) (hc0 : 0 ≤ cats) :
    Calls Tryd.prog 37 #[.slice A l.length c, (.int .i64 cats)] w fun e w' => ∃ v, e = .returned v ∧ verR.Own 62 w' w.heap.size (fun k => ok k ∧ k < w.heap.size) v (l.filter fun v => part v.r.cats cats) ∧ Below w.heap.size w w' := by
  have HR := Aside.mk (hr.mono (ok' := fun k => ok k ∧ k < w.heap.size) fun k h1 h2 => ⟨h1, h2⟩)
  have H0 := Aside.mk h0
  have HL := Aside.mk (store_ok h0).1
  clear hr h0
  go_enter Tryd.func37, Tryd.ntmps37
  go_wp2_with fail
  go_loopw [5, 10] (fun o i wr => ∃ k : Nat, k ≤ l.length ∧ i = .int .i64 k ∧ Aside (verR.Own 62 wr w.heap.size (fun k => ok k ∧ k < w.heap.size) o ((l.take k).filter fun v => part v.r.cats cats)) ∧ Aside (Below w.heap.size w wr)) (fun _ i _ => l.length - (intOf i).toNat)
  case atStart => exact ⟨0, Nat.zero_le _, rfl, ⟨by rw [List.take_zero, List.filter_nil]; exact Own.nil _ _ _ _ _⟩, ⟨Below.refl _ _⟩⟩
  case round =>
    obtain ⟨k, hk, rfl, HO, HB⟩ := hrel
    have hL5 : l.length ≤ 5120 := HL.out
    obtain ⟨Ao, co, rfl⟩ := Sl.form HO.out.sl
    by_cases hlt : k < l.length
    · have p0 : (0 : Int) ≤ (k : Int) := by omega
      have p1 : (k : Int) < (l.length : Int) := by omega
      obtain ⟨ad, A1, c1, A2, c2, rfl, _, x0, x1, x2, x3, x4, l1, l2, r1, r2⟩ := ver_at (HR.out.below HB.out) hlt
      have hal : Below wr.heap.size wr (wr.alloc (.cells #[.string l[k].r.id, .int .i64 l[k].r.cats, .slice A1 l[k].r.fields.length c1, .slice A2 l[k].r.refs.length c2, .bool l[k].gone] 62)) := (Below.refl _ _).alloc (Nat.le_refl _) _
      have HBa := Aside.mk (below_step HB.out hal)
      have HOa := Aside.mk (HO.out.below hal)
      have HQa := Aside.mk (Bk.made wr [.string l[k].r.id, .int .i64 l[k].r.cats, .slice A1 l[k].r.fields.length c1, .slice A2 l[k].r.refs.length c2, .bool l[k].gone] 62)
      have hrec := rec_ok (store_rec H0.out l[k] (List.getElem_mem hlt))
      have hc1 := hrec.2.1
      have hflen : ((l.take k).filter fun v => part v.r.cats cats).length ≤ k := Nat.le_trans (List.length_filter_le _ _) (List.length_take_le _ _)
      have HR1 := Aside.mk (r1.below hal)
      have HR2 := Aside.mk (r2.below hal)
      have HLK : Aside ((((l.take k).filter fun v => part v.r.cats cats).length + 1) * 80 ≤ 140737488355328) := ⟨by omega⟩
      have HSZ := Aside.mk (Nat.le_trans HB.out.size hal.size)
      clear hal hrec r1 r2 hflen
      cases hp : (fun v : Ver => part v.r.cats cats) l[k] with
      | false =>
        have HF := Aside.mk (filter_no (p := fun v => part v.r.cats cats) hlt hp)
        go_wp2_with (go_at_call 85; refine (partC _ _ hc1 hc0 _).mono ?_; rw [show part l[k].r.cats cats = false from hp]; rintro e w2 ⟨rfl, hb⟩
                     have HB2 := Aside.mk (below_step HBa.out hb); have HO2 := Aside.mk (HOa.out.below hb); clear hb)
        refine ⟨⟨k + 1, by omega, by go_num, ⟨by rw [HF.out]; exact HO2.out⟩, HB2⟩, by simp [intOf]; omega⟩
      | true =>
        have HF := Aside.mk (filter_yes (p := fun v => part v.r.cats cats) hlt hp)
        go_wp2_with (first
          | (go_at_call 85; refine (partC _ _ hc1 hc0 _).mono ?_; rw [show part l[k].r.cats cats = true from hp]; rintro e w2 ⟨rfl, hb⟩
             have HB2 := Aside.mk (below_step HBa.out hb); have HO2 := Aside.mk (HOa.out.below hb); have q2 := (HQa.out.below hb).five; have HR12 := Aside.mk (HR1.out.below hb); have HR22 := Aside.mk (HR2.out.below hb); have HSZ2 := Aside.mk (Nat.le_trans HSZ.out hb.size); clear hb)
          | (at_builtin
             refine list_one (w0 := w2.alloc (.cells #[.string l[k].r.id, .int .i64 l[k].r.cats, .slice A1 l[k].r.fields.length c1, .slice A2 l[k].r.refs.length c2, .bool l[k].gone] 62)) verR w.heap.size rfl (.tmp 19) (.tmp 21) 31 62 _ 80 rfl Tryd.underlying31 infoV rfl (by decide) (by decide) (.slice Ao ((l.take k).filter fun v => part v.r.cats cats).length co) ((l.take k).filter fun v => part v.r.cats cats) l[k] [.string l[k].r.id, .int .i64 l[k].r.cats, .slice A1 l[k].r.fields.length c1, .slice A2 l[k].r.refs.length c2, .bool l[k].gone] (fun k => ok k ∧ k < w.heap.size) w2.heap.size 1 rfl rfl (blk_new w2 _ _) (ver_here' HR12.out HR22.out l1 l2 HSZ2.out (fun k h => (HO2.out.lt k h).1) ((Below.refl _ _).alloc (Nat.le_refl _) _)) (HO2.out.below ((Below.refl _ _).alloc (Nat.le_refl _) _)) (Below.refl _ _) (Nat.le_trans HSZ2.out (by simp)) HLK.out ?_
             intro v1 w5 HO1 HB1 hg hat
             have HO5 := Aside.mk HO1
             have HB5 := Aside.mk ((HB2.out.alloc HB2.out.size _).grown hg (Nat.le_trans HSZ2.out (by simp)) (fun j hj => (HO2.out.lt j hj).1))
             clear HO1 HB1 hg hat))
        refine ⟨⟨k + 1, by omega, by go_num, ⟨by rw [HF.out]; exact HO5.out⟩, HB5⟩, by simp [intOf]; omega⟩
    · obtain rfl : k = l.length := by omega
      go_wp2_with fail
      go_ret
      have h := HO.out
      rw [List.take_length] at h
      exact ⟨.slice Ao (l.filter fun v => part v.r.cats cats).length co, by rw [List.take_length]; first | done | rfl, h, HB.out⟩
set_option maxHeartbeats 1600000 in
set_option maxRecDepth 100000 in
theorem refHist (A : Option Addr) (c : Nat) (l : List Ver) (id : ByteArray) (ok : Nat → Prop) (w : World) (hr : verR.Row w ok A l) (h0 : storeErr l = 0) (_hid : True) :
    Calls Tryd.prog 40 #[.slice A l.length c, (.string id)] w fun e w' => ∃ v, e = .returned v ∧ verR.Own 62 w' w.heap.size (fun k => ok k ∧ k < w.heap.size) v (l.filter fun v => decide (v.r.id = id)) ∧ Below w.heap.size w w' := by
  have HR := Aside.mk (hr.mono (ok' := fun k => ok k ∧ k < w.heap.size) fun k h1 h2 => ⟨h1, h2⟩)
  have H0 := Aside.mk h0
  have HL := Aside.mk (store_ok h0).1
  clear hr h0
  go_enter Tryd.func40, Tryd.ntmps40
  go_wp2_with fail
  go_loopw [5, 10] (fun o i wr => ∃ k : Nat, k ≤ l.length ∧ i = .int .i64 k ∧ Aside (verR.Own 62 wr w.heap.size (fun k => ok k ∧ k < w.heap.size) o ((l.take k).filter fun v => decide (v.r.id = id))) ∧ Aside (Below w.heap.size w wr)) (fun _ i _ => l.length - (intOf i).toNat)
  case atStart => exact ⟨0, Nat.zero_le _, rfl, ⟨by rw [List.take_zero, List.filter_nil]; exact Own.nil _ _ _ _ _⟩, ⟨Below.refl _ _⟩⟩
  case round =>
    obtain ⟨k, hk, rfl, HO, HB⟩ := hrel
    have hL5 : l.length ≤ 5120 := HL.out
    obtain ⟨Ao, co, rfl⟩ := Sl.form HO.out.sl
    by_cases hlt : k < l.length
    · have p0 : (0 : Int) ≤ (k : Int) := by omega
      have p1 : (k : Int) < (l.length : Int) := by omega
      obtain ⟨ad, A1, c1, A2, c2, rfl, _, x0, x1, x2, x3, x4, l1, l2, r1, r2⟩ := ver_at (HR.out.below HB.out) hlt
      have hal : Below wr.heap.size wr (wr.alloc (.cells #[.string l[k].r.id, .int .i64 l[k].r.cats, .slice A1 l[k].r.fields.length c1, .slice A2 l[k].r.refs.length c2, .bool l[k].gone] 62)) := (Below.refl _ _).alloc (Nat.le_refl _) _
      have HBa := Aside.mk (below_step HB.out hal)
      have HOa := Aside.mk (HO.out.below hal)
      have HQa := Aside.mk (Bk.made wr [.string l[k].r.id, .int .i64 l[k].r.cats, .slice A1 l[k].r.fields.length c1, .slice A2 l[k].r.refs.length c2, .bool l[k].gone] 62)
      have hrec := rec_ok (store_rec H0.out l[k] (List.getElem_mem hlt))
      have hc1 := hrec.2.1
      have hflen : ((l.take k).filter fun v => decide (v.r.id = id)).length ≤ k := Nat.le_trans (List.length_filter_le _ _) (List.length_take_le _ _)
      have HR1 := Aside.mk (r1.below hal)
      have HR2 := Aside.mk (r2.below hal)
      have HLK : Aside ((((l.take k).filter fun v => decide (v.r.id = id)).length + 1) * 80 ≤ 140737488355328) := ⟨by omega⟩
      have HSZ := Aside.mk (Nat.le_trans HB.out.size hal.size)
      clear hal hrec r1 r2 hflen
      cases hp : (fun v : Ver => decide (v.r.id = id)) l[k] with
      | false =>
        have HF := Aside.mk (filter_no (p := fun v => decide (v.r.id = id)) hlt hp)
        have b1 : (l[k].r.id.toList == id.toList) = false := eqS_g (of_decide_eq_false hp)
        go_wp2_with fail
        refine ⟨⟨k + 1, by omega, by go_num, ⟨by rw [HF.out]; exact HOa.out⟩, HBa⟩, by simp [intOf]; omega⟩
      | true =>
        have HF := Aside.mk (filter_yes (p := fun v => decide (v.r.id = id)) hlt hp)
        have b1 : (l[k].r.id.toList == id.toList) = true := eqS_t (of_decide_eq_true hp)
        go_wp2_with (at_builtin
                     refine list_one (w0 := (wr.alloc (.cells #[.string l[k].r.id, .int .i64 l[k].r.cats, .slice A1 l[k].r.fields.length c1, .slice A2 l[k].r.refs.length c2, .bool l[k].gone] 62)).alloc (.cells #[.string l[k].r.id, .int .i64 l[k].r.cats, .slice A1 l[k].r.fields.length c1, .slice A2 l[k].r.refs.length c2, .bool l[k].gone] 62)) verR w.heap.size rfl (.tmp 19) (.tmp 21) 31 62 _ 80 rfl Tryd.underlying31 infoV rfl (by decide) (by decide) (.slice Ao ((l.take k).filter fun v => decide (v.r.id = id)).length co) ((l.take k).filter fun v => decide (v.r.id = id)) l[k] [.string l[k].r.id, .int .i64 l[k].r.cats, .slice A1 l[k].r.fields.length c1, .slice A2 l[k].r.refs.length c2, .bool l[k].gone] (fun k => ok k ∧ k < w.heap.size) (wr.heap.size + 1) 1 rfl rfl (blk_new2 wr _ _ _) (ver_here' HR1.out HR2.out l1 l2 HSZ.out (fun k h => (HOa.out.lt k h).1) ((Below.refl _ _).alloc (Nat.le_refl _) _)) (HOa.out.below ((Below.refl _ _).alloc (Nat.le_refl _) _)) (Below.refl _ _) (Nat.le_trans HSZ.out (by simp)) HLK.out ?_
                     intro v1 w5 HO1 HB1 hg hat
                     have HO5 := Aside.mk HO1
                     have HB5 := Aside.mk ((HBa.out.alloc HBa.out.size _).grown hg (Nat.le_trans HSZ.out (by simp)) (fun j hj => (HOa.out.lt j hj).1))
                     clear HO1 HB1 hg hat)
        refine ⟨⟨k + 1, by omega, by go_num, ⟨by rw [HF.out]; exact HO5.out⟩, HB5⟩, by simp [intOf]; omega⟩
    · obtain rfl : k = l.length := by omega
      go_wp2_with fail
      go_ret
      have h := HO.out
      rw [List.take_length] at h
      exact ⟨.slice Ao (l.filter fun v => decide (v.r.id = id)).length co, by rw [List.take_length]; first | done | rfl, h, HB.out⟩
end Go.Proofs.WK
