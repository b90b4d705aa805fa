/-
  slices.Insert of one field into a row of the call's own.
-/
import Derived.Test.YtljjiicjnoljbaaDoorIns0
import Derived.Test.YtljjiicjnoljbaaDoorRec0
namespace Go.Proofs.WK
open Go.RowKit Rp
theorem ins_cells (C ys : List Value) (a N : Nat) (ha : a ≤ N) (hC : N + ys.length ≤ C.length) :
    (over (over C (a + ys.length) ((C.take N).drop a)) a ys).take (N + ys.length) = (C.take N).take a ++ ys ++ (C.take N).drop a := by
  have hl : ((C.take N).drop a).length = N - a := by rw [List.length_drop, List.length_take, Nat.min_eq_left (by omega)]
  refine List.ext_getElem? fun j => ?_
  rw [List.getElem?_take, over_get, over_length, over_get, hl, List.getElem?_append, List.getElem?_append, List.length_append, List.length_take, List.length_take, Nat.min_eq_left (by omega : N ≤ C.length), Nat.min_eq_left ha]
  by_cases h0 : j < a
  · rw [if_pos (by omega), if_neg (by omega), if_neg (by omega), if_pos (by omega), if_pos h0, List.getElem?_take, if_pos h0, List.getElem?_take, if_pos (by omega)]
  · by_cases h1 : j < a + ys.length
    · rw [if_pos (by omega), if_pos ⟨by omega, h1, by omega⟩, if_pos h1, if_neg h0]
    · by_cases h2 : j < N + ys.length
      · rw [if_pos h2, if_neg (by omega), if_pos ⟨by omega, by omega, by omega⟩, if_neg h1]
      · rw [if_neg h2, if_neg h1, List.getElem?_drop, List.getElem?_take, if_neg (by omega)]
theorem ins_new (C R ys : List Value) (a N : Nat) (ha : a ≤ N) (hN : N ≤ C.length) (hR : N + ys.length ≤ R.length) (h0 : R.take a = (C.take N).take a) :
    (over (over R a ys) (a + ys.length) ((C.take N).drop a)).take (N + ys.length) = (C.take N).take a ++ ys ++ (C.take N).drop a := by
  have hl : ((C.take N).drop a).length = N - a := by rw [List.length_drop, List.length_take, Nat.min_eq_left hN]
  refine List.ext_getElem? fun j => ?_
  rw [List.getElem?_take, over_get, over_length, over_get, hl, List.getElem?_append, List.getElem?_append, List.length_append, List.length_take, List.length_take, Nat.min_eq_left hN, Nat.min_eq_left ha]
  by_cases h1 : j < a
  · rw [if_pos (by omega), if_neg (by omega), if_neg (by omega), if_pos (by omega), if_pos h1, ← h0, List.getElem?_take, if_pos h1]
  · by_cases h2 : j < a + ys.length
    · rw [if_pos (by omega), if_neg (by omega), if_pos ⟨by omega, h2, by omega⟩, if_pos h2, if_neg h1]
    · by_cases h3 : j < N + ys.length
      · rw [if_pos h3, if_pos ⟨by omega, by omega, by omega⟩, if_neg h2]
      · rw [if_neg h3, if_neg h2, List.getElem?_drop, List.getElem?_take, if_neg (by omega)]
def InsD (w : World) (base : Nat) (v : Value) (l : List Fld) (e : Ending) (w' : World) : Prop :=
  ∃ v1, e = .returned v1 ∧ fldR.Own 46 w' base (fun _ => False) v1 l ∧ w.grownBy w' v.ownBlock ∧ (v1.ownBlock = v.ownBlock ∨ ∃ b, v1.ownBlock = some b ∧ w.heap.size ≤ b)
theorem row_one {w : World} {B : Nat} {x : Fld} (h : Bk w B (fldC x)) : fldR.Row w (fun k => k = B) (some ⟨B, 0, none⟩) [x] := by
  refine ⟨by simp, fun j p hp => ?_⟩
  obtain rfl : j = 0 := by
    have := (List.getElem?_eq_some_iff.1 hp).1
    simpa using this
  obtain rfl : x = p := by simpa using hp
  refine ⟨_, rfl, rfl, h.lt, fldC x, fldK.2 rfl, fun i u hu => ?_⟩
  rw [add_plain, h.cell]
  simpa using hu
set_option maxRecDepth 100000 in
set_option maxHeartbeats 4000000 in
theorem insEnd (v : Value) (l : List Fld) (x : Fld) (base B : Nat) (w : World) (ho : fldR.Own 46 w base (fun _ => False) v l) (hbase : base ≤ w.heap.size) (hB : Bk w B (fldC x)) (hl : l.length ≤ 1000) :
    Calls Tryd.prog 94 #[v, .int .i64 (l.length : Nat), .slice (some ⟨B, 0, none⟩) 1 1] w (InsD w base v (l ++ [x])) := by
  obtain ⟨A, c, rfl, hc, _⟩ := ho.sl
  have HO := Aside.mk ho
  have HR := Aside.mk (row_one hB)
  have HL : Aside ((l.length + [x].length) * 32 ≤ 140737488355328) := ⟨by simp; omega⟩
  have HE := Aside.mk (fun c' => show (Value.slice A l.length c').ownBlock = (Value.slice A l.length c).ownBlock by cases A <;> rfl)
  clear ho hB
  go_enter Tryd.func94, Tryd.ntmps94
  go_wp2_with (at_builtin
               refine append_row (w0 := w) (ok1 := fun k => k = B) fldR base rfl (.tmp 23) (.tmp 24) 32 46 _ 32 rfl Tryd.underlying32 infoF rfl (by decide) (by decide) (.slice A l.length c) l [x] (some ⟨B, 0, none⟩) 1 (fun _ => False) rfl rfl HR.out (fun p cs h => fldK.2 (fldK.1 h)) HO.out (Below.refl _ _) hbase HL.out ?_
               intro v1 w1 HO1 HB1 hg hat
               have HX := Aside.mk (And.intro HO1 (And.intro hg hat))
               clear HO1 HB1 hg hat)
  · go_ret
    exact ⟨_, rfl, HX.out.1, by rw [HE.out l.length]; exact HX.out.2.1, by rw [HE.out l.length]; exact HX.out.2.2⟩
  · go_ret
    exact ⟨_, rfl, HX.out.1, HX.out.2.1, HX.out.2.2⟩
theorem fldC_one {x : Fld} : ∀ v ∈ fldC x, v.oneCell' = true := fun v hv => by
  unfold fldC at hv
  simp only [List.mem_cons, List.not_mem_nil, or_false] at hv
  rcases hv with rfl | rfl <;> rfl
theorem reps_one {w : World} {ok : Nat → Prop} {l : List Fld} {cs : List Value} (h : Reps (fldR.K w ok) 2 l cs) : ∀ v ∈ cs, v.oneCell' = true := by
  intro v hv
  obtain ⟨k, hk, rfl⟩ := List.getElem_of_mem hv
  rw [h.1] at hk
  have hj : k / 2 < l.length := by omega
  have h1 := h.2 (k / 2) l[k / 2] (List.getElem?_eq_getElem hj)
  refine fldR.one h1 _ ?_
  rw [List.mem_iff_getElem?]
  refine ⟨k % 2, ?_⟩
  rw [List.getElem?_take, if_pos (Nat.mod_lt _ (by decide)), List.getElem?_drop, show k / 2 * 2 + k % 2 = k by omega]
  exact List.getElem?_eq_getElem _
set_option maxRecDepth 100000 in
set_option maxHeartbeats 4000000 in
theorem insRoom (g c : Nat) (cs : List Value) (l : List Fld) (i : Nat) (x : Fld) (base B : Nat) (w : World) (hg : base ≤ g) (hbt : Bt w g 46 cs) (hc : l.length + 1 ≤ c) (hcm : c ≤ maxLen) (hcl : cs.length = c * 2) (hr : Reps (fldR.K w (fun _ => False)) 2 l (cs.take (l.length * 2))) (hi : i < l.length) (hB : Bk w B (fldC x)) (hBg : B ≠ g) (hl : l.length ≤ 1000) :
    Calls Tryd.prog 94 #[.slice (some ⟨g, 0, none⟩) l.length c, .int .i64 (i : Nat), .slice (some ⟨B, 0, none⟩) 1 1] w (InsD w base (.slice (some ⟨g, 0, none⟩) l.length c) (l.take i ++ x :: l.drop i)) := by
  have hone := reps_one hr
  have hinf : (Tryd.prog.info? 46).map (·.size) = some 2 := by
    obtain ⟨i0, h0, h1⟩ := Option.map_eq_some_iff.1 infoF
    rw [h0]
    simp only [Prod.mk.injEq] at h1
    simp [h1.2.1]
  obtain ⟨tail, htail⟩ : ∃ t, t = (cs.take (l.length * 2)).drop (i * 2) := ⟨_, rfl⟩
  have htl : tail.length = (l.length - i) * 2 := by rw [htail, List.length_drop, List.length_take, hcl]; omega
  have hto : ∀ v ∈ tail, v.oneCell' = true := fun v hv => hone v (by rw [htail] at hv; exact List.mem_of_mem_drop hv)
  have hcm' : c ≤ 9223372036854775807 := by unfold maxLen at hcm; omega
  have hov : ∀ lb cb, (callFunc 128 #[.slice (some ⟨B, 0, none⟩) 1 1, .slice (some ⟨g, (i + 1) * 2, none⟩) lb cb]).run Tryd.prog w = .ok (.value (.bool false)) w := fun lb cb => by
    obtain ⟨t, hb⟩ := hB
    rw [run_callFunc_extern Tryd.func128 (by kernel_rfl) (by kernel_rfl) (by kernel_rfl) (e := Extern.SlicesOverlaps.overlaps #[32, 32] #[4]) (by kernel_rfl),
      Lib.run_overlaps_apart w 32 4 46 Tryd.underlying32 2 Tryd.sizeOf46 ⟨B, 0, none⟩ ⟨g, (i + 1) * 2, none⟩ 1 1 lb cb hBg t 46 (fldC x).length cs.length (by simp [World.shape?, hb, fldC]) (by have h : w.heap[g]? = _ := hbt; simp [World.shape?, h]) (by omega) (Bk.frozen ⟨t, hb⟩ 0) (Bk.frozen ⟨t, hb⟩ _)]
    rfl
  have hcl' : ∀ j, j < c * 2 → (w.cell? ⟨g, j, none⟩).isSome = true := fun j hj => by rw [hbt.cell, List.getElem?_eq_getElem (by omega)]; rfl
  have htc : ∀ j v, tail[j]? = some v → w.cell? ⟨g, i * 2 + j, none⟩ = some v := fun j v hj => by
    rw [hbt.cell]
    rw [htail, List.getElem?_drop, List.getElem?_take] at hj
    split at hj
    · exact hj
    · cases hj
  have hcp1 : ∀ ty dc sc, (Builtin.copy_ #[32, 32] ty #[.slice (some ⟨g, (i + 1) * 2, none⟩) (l.length - i) dc, .slice (some ⟨g, i * 2, none⟩) (l.length + 1 - i) sc]).run Tryd.prog w.drew = .ok (goInt (l.length - i : Nat)) (w.drew.setCells g ((i + 1) * 2) tail) := fun ty dc sc =>
    run_copy_sz w.drew _ _ ty 46 2 g ((i + 1) * 2) _ dc ⟨g, i * 2, none⟩ _ sc (l.length - i) tail Tryd.underlying32 hinf (by simp only [Nat.min_def]; split <;> omega) htl
      (fun j v hj => by rw [Addr.add_lit]; exact htc j v hj) (fun j hj => hcl' _ (by omega)) (fun j hj => hbt.frozen _) hto
  obtain ⟨W1, hW1⟩ : ∃ W1, W1 = w.drew.setCells g ((i + 1) * 2) tail := ⟨_, rfl⟩
  have hbt1 : Bt W1 g 46 (over cs ((i + 1) * 2) tail) := by rw [hW1]; exact Bt.sets tail _ (show Bt w.drew g _ cs from hbt)
  have hB1 : Bk W1 B (fldC x) := by
    obtain ⟨t, hb⟩ := hB
    refine ⟨t, ?_⟩
    rw [hW1]
    exact ((grown_setCells w.drew g ((i + 1) * 2) tail).block B (Array.getElem?_eq_some_iff.1 hb).1 fun e => hBg (by injection e)).trans hb
  have hcp2 : ∀ (W : World), (∀ x, W.cell? x = W1.cell? x) → (∀ x, W.frozen? x = W1.frozen? x) → ∀ ty dc, (Builtin.copy_ #[32, 32] ty #[.slice (some ⟨g, i * 2, none⟩) (l.length + 1 - i) dc, .slice (some ⟨B, 0, none⟩) 1 1]).run Tryd.prog W = .ok (goInt (1 : Nat)) (W.setCells g (i * 2) (fldC x)) := fun W hWc hWf ty dc =>
    run_copy_sz W _ _ ty 46 2 g (i * 2) _ dc ⟨B, 0, none⟩ 1 1 1 (fldC x) Tryd.underlying32 hinf (by simp only [Nat.min_def]; split <;> omega) rfl
      (fun j v hj => by rw [Addr.add_lit, hWc, Nat.zero_add]; rw [hB1.cell]; exact hj)
      (fun j hj => by
        rw [hWc, hbt1.cell, List.getElem?_eq_getElem (by rw [over_length, hcl]; simp [fldC] at hj; omega)]; rfl) (fun j hj => by rw [hWf]; exact hbt1.frozen _) fldC_one
  have HEND : Aside (∀ W2, W2 = W1.setCells g (i * 2) (fldC x) → fldR.Own 46 W2 base (fun _ => False) (.slice (some ⟨g, 0, none⟩) (l.length + 1) c) (l.take i ++ x :: l.drop i) ∧ w.grownBy W2 (some g)) := ⟨fun W2 e => by
    subst e
    have hb2 := Bt.sets (fldC x) (i * 2) hbt1
    have hgr : w.grownBy (W1.setCells g (i * 2) (fldC x)) (some g) := by
      rw [hW1]
      exact ((show w.grownBy w.drew (some g) from ⟨rfl, rfl, rfl, Nat.le_refl _, fun _ _ _ => rfl⟩).trans (grown_setCells w.drew g _ tail)).trans (grown_setCells _ g _ _)
    refine ⟨own_shut hg hb2 (by simp; omega) hc hcm (by rw [over_length, over_length, hcl]; rfl) ?_, hgr⟩
    have e1 : (over (over cs ((i + 1) * 2) tail) (i * 2) (fldC x)).take ((l.length + 1) * fldR.sz) = (cs.take (l.length * 2)).take (i * 2) ++ fldC x ++ (cs.take (l.length * 2)).drop (i * 2) := by
      have h := ins_cells cs (fldC x) (i * 2) (l.length * 2) (by omega) (by rw [hcl]; simp [fldC]; omega)
      rw [← htail] at h ⊢
      rw [show (l.length + 1) * fldR.sz = l.length * 2 + (fldC x).length by simp [fldC, show fldR.sz = 2 from rfl]; omega, show (i + 1) * 2 = i * 2 + (fldC x).length by simp [fldC]; omega]
      exact h
    rw [e1]
    exact Reps.insert (hr.mono fun p c h => fldK.2 (fldK.1 h)) (fldK.2 rfl) rfl i (Nat.le_of_lt hi)⟩
  rw [← hW1] at hcp1
  have hz2 : ¬ ((i : Int) = (l.length : Int)) := by omega
  have mixed : Tryd.prog.follows Departure.mixedOrders = true := by kernel_rfl
  have hb1 : (0 : Int) ≤ (i : Int) + 1 := by omega
  have hw1 : IntKind.i64.wrap ((i : Int) + 1) = (i : Int) + 1 := by rw [IntKind.wrap_i64]; omega
  have htn : ((i : Int) + 1).toNat = i + 1 := by omega
  have hb2 : ¬ (c = i + 1) := by omega
  have hb4 : ¬ (c = i) := by omega
  have hb3 : (i : Int) ≤ (l.length : Int) + 1 := by omega
  have hin : i ≤ l.length := by omega
  clear hcl' htc hbt1 hB1 hbt hr hone hinf hto hcl
  go_enter Tryd.func94, Tryd.ntmps94
  go_wp2_with (simp only [hov])
  go_region_law_o (refine step_copy_runI rfl _ _ 32 32 rfl _ _ (by simp [Act.eval, Act.put]) (by simp [Act.eval, Act.put]) (hcp1 _ _ _) ?_)
  go_wp2_with (at_builtin; refine wpList_copy_runI _ rfl _ _ 32 32 rfl _ _ rfl rfl (hcp2 _ (fun _ => rfl) (fun _ => rfl) _ _) ?_)
  go_ret
  obtain ⟨h1, h2⟩ := HEND.out ((w.drew.setCells g ((i + 1) * 2) ((cs.take (l.length * 2)).drop (i * 2))).setCells g (i * 2) (fldC x)) (by rw [hW1, htail])
  exact ⟨_, rfl, h1, h2, .inl rfl⟩
theorem zeros_two (n : Nat) : (Builtin.zeroCells (Value.agg #[.string ByteArray.empty, .string ByteArray.empty]).cells n).size = n * 2 := by
  simp [Builtin.zeroCells, Value.cells]
set_option maxRecDepth 100000 in
set_option maxHeartbeats 4000000 in
theorem insGrow (g c : Nat) (cs : List Value) (l : List Fld) (i : Nat) (x : Fld) (base B : Nat) (w : World) (hbase : base ≤ w.heap.size) (hbt : Bt w g 46 cs) (hc : c < l.length + 1) (hn : l.length ≤ c) (hcl : cs.length = c * 2) (hr : Reps (fldR.K w (fun _ => False)) 2 l (cs.take (l.length * 2))) (hi : i < l.length) (hB : Bk w B (fldC x)) (hl : l.length ≤ 1000) :
    Calls Tryd.prog 94 #[.slice (some ⟨g, 0, none⟩) l.length c, .int .i64 (i : Nat), .slice (some ⟨B, 0, none⟩) 1 1] w (InsD w base (.slice (some ⟨g, 0, none⟩) l.length c) (l.take i ++ x :: l.drop i)) := by
  have hone := reps_one hr
  have mixed : Tryd.prog.follows Departure.mixedOrders = true := by kernel_rfl
  obtain ⟨i0, hi0, hi1⟩ := Option.map_eq_some_iff.1 infoF
  simp only [Prod.mk.injEq] at hi1
  obtain ⟨hz0, hzs, hzb⟩ := hi1
  have hinf : (Tryd.prog.info? 46).map (·.size) = some 2 := by rw [hi0]; simp [hzs]
  obtain ⟨tail, htail⟩ : ∃ t, t = (cs.take (l.length * 2)).drop (i * 2) := ⟨_, rfl⟩
  have htl : tail.length = (l.length - i) * 2 := by rw [htail, List.length_drop, List.length_take, hcl]; omega
  have hto : ∀ v ∈ tail, v.oneCell' = true := fun v hv => hone v (by rw [htail] at hv; exact List.mem_of_mem_drop hv)
  obtain ⟨hd, hhd⟩ : ∃ t, t = (cs.take (l.length * 2)).take (i * 2) := ⟨_, rfl⟩
  have hhl : hd.length = i * 2 := by rw [hhd, List.length_take, List.length_take, hcl]; omega
  have htc : ∀ j v, tail[j]? = some v → w.cell? ⟨g, i * 2 + j, none⟩ = some v := fun j v hj => by
    rw [hbt.cell]
    rw [htail, List.getElem?_drop, List.getElem?_take] at hj
    split at hj
    · exact hj
    · cases hj
  have hold : (Builtin.firstCells i0.size i (.slice (some ⟨g, 0, none⟩) i c)).run Tryd.prog w.drew = .ok hd.toArray w.drew := by
    rw [hzs]
    refine run_firstCells_some w.drew 2 i ⟨g, 0, none⟩ i c hd hhl fun j v hj => ?_
    rw [Addr.add_lit, Nat.zero_add]
    show w.cell? ⟨g, j, none⟩ = some v
    rw [hbt.cell]
    rw [hhd, List.getElem?_take, List.getElem?_take] at hj
    split at hj
    · split at hj
      · exact hj
      · cases hj
    · cases hj
  have hkk : (l.length : Int) + 1 - (i : Int) = ((l.length + 1 - i : Nat) : Int) := by omega
  have hik : i + (l.length + 1 - i) = l.length + 1 := by omega
  have hrz : ∀ ty, (Builtin.append_ #[32, 3] ty #[.slice (some ⟨g, 0, none⟩) i c, .int .i64 ((l.length : Int) + 1 - (i : Int))]).run Tryd.prog w =
      .ok (.slice (some ⟨w.heap.size, 0, none⟩) (l.length + 1) (grownCap w (l.length + 1) c 46)) (w.drew.alloc (.cells (hd.toArray ++ Builtin.zeroCells (Value.agg #[.string ByteArray.empty, .string ByteArray.empty]).cells (l.length + 1 - i) ++ Builtin.zeroCells (Value.agg #[.string ByteArray.empty, .string ByteArray.empty]).cells (grownCap w (l.length + 1) c 46 - (l.length + 1))) 46)) := fun ty => by
    have h := Lib.run_append_grow_zeros w 32 3 ty 46 i0 _ .i64 .i64 Tryd.underlying32 Tryd.underlying3 hi0 hz0 (some ⟨g, 0, none⟩) i c hd hold (l.length + 1 - i) (by omega) (by omega) (by omega) (by omega) (by rw [hzb]; omega) (by rw [hzb, hik]; exact growslice_fits hc (by omega))
    rw [hik] at h
    rw [hkk]
    exact h
  have hGn : l.length + 1 ≤ grownCap w (l.length + 1) c 46 := grownCap_ge w _ _ _
  have hGm : grownCap w (l.length + 1) c 46 ≤ maxLen := grownCap_le_maxLen w (l.length + 1) c 46 (by unfold maxLen; omega)
  obtain ⟨G, hG⟩ : ∃ G, G = grownCap w (l.length + 1) c 46 := ⟨_, rfl⟩
  rw [← hG] at hrz hGn hGm
  obtain ⟨ROW, hROW⟩ : ∃ ROW : Array Value, ROW = hd.toArray ++ Builtin.zeroCells (Value.agg #[.string ByteArray.empty, .string ByteArray.empty]).cells (l.length + 1 - i) ++ Builtin.zeroCells (Value.agg #[.string ByteArray.empty, .string ByteArray.empty]).cells (G - (l.length + 1)) := ⟨_, rfl⟩
  rw [← hROW] at hrz
  have hRs : ROW.size = G * 2 := by
    rw [hROW, Array.size_append, Array.size_append, zeros_two, zeros_two, List.size_toArray, hhl]
    omega
  have hRt : ROW.toList.take (i * 2) = hd := by
    rw [hROW, Array.toList_append, Array.toList_append, List.append_assoc]
    exact List.take_left' hhl
  obtain ⟨W1, hW1⟩ : ∃ W1, W1 = w.drew.alloc (.cells ROW 46) := ⟨_, rfl⟩
  have hb1 : Bt W1 w.heap.size 46 ROW.toList := by
    rw [hW1]
    unfold Bt
    show (w.heap.push _)[w.heap.size]? = _
    simp
  have hb2 := Bt.sets (fldC x) (i * 2) hb1
  have hg1 : w.grownBy W1 none := by rw [hW1]; exact (show w.grownBy w.drew none from ⟨rfl, rfl, rfl, Nat.le_refl _, fun _ _ _ => rfl⟩).trans (World.grownBy_alloc _ _ none)
  have hgw : g < w.heap.size := hbt.lt
  have hBk1 : Bk W1 B (fldC x) := by
    obtain ⟨t, hb⟩ := hB
    exact ⟨t, (hg1.block B (Array.getElem?_eq_some_iff.1 hb).1 (by simp)).trans hb⟩
  have hcpA : ∀ (W : World), (∀ x, W.cell? x = W1.cell? x) → (∀ x, W.frozen? x = W1.frozen? x) → ∀ ty dc, (Builtin.copy_ #[32, 32] ty #[.slice (some ⟨w.heap.size, i * 2, none⟩) (l.length + 1 - i) dc, .slice (some ⟨B, 0, none⟩) 1 1]).run Tryd.prog W = .ok (goInt (1 : Nat)) (W.setCells w.heap.size (i * 2) (fldC x)) := fun W hWc hWf ty dc =>
    run_copy_sz W _ _ ty 46 2 w.heap.size (i * 2) _ dc ⟨B, 0, none⟩ 1 1 1 (fldC x) Tryd.underlying32 hinf (by simp only [Nat.min_def]; split <;> omega) rfl
      (fun j v hj => by rw [Addr.add_lit, hWc, Nat.zero_add]; rw [hBk1.cell]; exact hj)
      (fun j hj => by rw [hWc, hb1.cell, List.getElem?_eq_getElem (by rw [Array.length_toList, hRs]; simp [fldC] at hj; omega)]; rfl) (fun j hj => by rw [hWf]; exact hb1.frozen _) fldC_one
  have hcpB : ∀ (W : World), (∀ y, W.cell? y = (W1.setCells w.heap.size (i * 2) (fldC x)).cell? y) → (∀ y, W.frozen? y = (W1.setCells w.heap.size (i * 2) (fldC x)).frozen? y) → ∀ ty dc sc, (Builtin.copy_ #[32, 32] ty #[.slice (some ⟨w.heap.size, (i + 1) * 2, none⟩) (l.length - i) dc, .slice (some ⟨g, i * 2, none⟩) (l.length - i) sc]).run Tryd.prog W = .ok (goInt (l.length - i : Nat)) (W.setCells w.heap.size ((i + 1) * 2) tail) := fun W hWc hWf ty dc sc =>
    run_copy_sz W _ _ ty 46 2 w.heap.size ((i + 1) * 2) _ dc ⟨g, i * 2, none⟩ _ sc (l.length - i) tail Tryd.underlying32 hinf (by simp) htl
      (fun j v hj => by
        rw [Addr.add_lit, hWc, World.cell?_setCells_out _ _ _ _ _ (fun h _ => absurd h (show ¬ g = w.heap.size by omega))]
        rw [show W1.cell? ⟨g, i * 2 + j, none⟩ = w.cell? ⟨g, i * 2 + j, none⟩ from World.cell?_of_block (w := w) (hg1.block g hgw (by simp))]
        exact htc j v hj)
      (fun j hj => by rw [hWc, hb2.cell, List.getElem?_eq_getElem (by rw [over_length, Array.length_toList, hRs]; omega)]; rfl) (fun j hj => by rw [hWf]; exact hb2.frozen _) hto
  have HEND : Aside (∀ W2, W2 = (W1.setCells w.heap.size (i * 2) (fldC x)).setCells w.heap.size ((i + 1) * 2) tail → fldR.Own 46 W2 base (fun _ => False) (.slice (some ⟨w.heap.size, 0, none⟩) (l.length + 1) G) (l.take i ++ x :: l.drop i) ∧ w.grownBy W2 (some g)) := ⟨fun W2 e => by
    subst e
    have hb3 := Bt.sets tail ((i + 1) * 2) hb2
    have hgr : Below w.heap.size w ((W1.setCells w.heap.size (i * 2) (fldC x)).setCells w.heap.size ((i + 1) * 2) tail) := by
      have h1 : Below w.heap.size w W1 := ⟨hg1.os, hg1.tape, hg1.output, hg1.size, fun k hk => hg1.block k hk (by simp)⟩
      have h2 := h1.grown (grown_setCells W1 w.heap.size (i * 2) (fldC x)) h1.size fun k hk => by injection hk with hk; omega
      exact h2.grown (grown_setCells _ w.heap.size ((i + 1) * 2) tail) h2.size fun k hk => by injection hk with hk; omega
    refine ⟨own_shut hbase hb3 (by simp; omega) hGn hGm (by rw [over_length, over_length, Array.length_toList, hRs]; rfl) ?_, ⟨hgr.os, hgr.tape, hgr.output, hgr.size, fun k hk _ => hgr.block k hk⟩⟩
    have e1 : (over (over ROW.toList (i * 2) (fldC x)) ((i + 1) * 2) tail).take ((l.length + 1) * fldR.sz) = (cs.take (l.length * 2)).take (i * 2) ++ fldC x ++ (cs.take (l.length * 2)).drop (i * 2) := by
      have h := ins_new cs ROW.toList (fldC x) (i * 2) (l.length * 2) (by omega) (by rw [hcl]; omega) (by rw [show ROW.toList.length = ROW.size from Array.length_toList, hRs]; simp [fldC]; omega) (by rw [hRt, hhd])
      rw [← htail] at h ⊢
      rw [show (l.length + 1) * fldR.sz = l.length * 2 + (fldC x).length by simp [fldC, show fldR.sz = 2 from rfl]; omega, show (i + 1) * 2 = i * 2 + (fldC x).length by simp [fldC]; omega]
      exact h
    rw [e1]
    exact Reps.insert (hr.mono fun p c h => fldK.2 (fldK.1 h)) (fldK.2 rfl) rfl i (Nat.le_of_lt hi)⟩
  have hz2 : ¬ ((i : Int) = (l.length : Int)) := by omega
  have hz3 : (c : Int) < (l.length : Int) + 1 := by omega
  have hw1 : IntKind.i64.wrap ((i : Int) + 1) = (i : Int) + 1 := by rw [IntKind.wrap_i64]; omega
  have hbb : (0 : Int) ≤ (i : Int) + 1 := by omega
  have htn : ((i : Int) + 1).toNat = i + 1 := by omega
  have hGi : ¬ (G = i) := by omega
  have hGim : ¬ (G = i + 1) := by omega
  have hci : ¬ (c = i) := by omega
  have hG63 : G ≤ 9223372036854775807 := by unfold maxLen at hGm; omega
  have hin : i ≤ l.length := by omega
  have hi3 : (i : Int) ≤ (l.length : Int) := by omega
  rw [← hW1] at hrz
  clear hone hinf hi0 hz0 hzs hzb htl hto hhl htc hold hkk hik hRs hRt hb1 hb2 hg1 hBk1 hbt hr hGm hcl hhd hROW hG htail
  subst hW1
  have hE1 : ∀ x, ((w.alloc (.cells ROW 46)).drew).cell? x = (w.drew.alloc (.cells ROW 46)).cell? x := fun x => rfl
  have hE2 : ∀ x, ((w.alloc (.cells ROW 46)).drew).frozen? x = (w.drew.alloc (.cells ROW 46)).frozen? x := fun x => rfl
  have hF1 : ∀ y, (((w.alloc (.cells ROW 46)).drew.setCells w.heap.size (i * 2) (fldC x)).drew).cell? y = ((w.drew.alloc (.cells ROW 46)).setCells w.heap.size (i * 2) (fldC x)).cell? y := fun y => rfl
  have hF2 : ∀ y, (((w.alloc (.cells ROW 46)).drew.setCells w.heap.size (i * 2) (fldC x)).drew).frozen? y = ((w.drew.alloc (.cells ROW 46)).setCells w.heap.size (i * 2) (fldC x)).frozen? y := fun y => rfl
  go_enter Tryd.func94, Tryd.ntmps94
  go_wp2_with (first
    | (at_builtin; refine Lib.wpList_append_run _ rfl _ _ _ _ rfl _ _ rfl rfl _ _ (hrz _) ?_)
    | (at_builtin; refine wpList_copy_runI _ rfl _ _ 32 32 rfl _ _ rfl rfl (hcpA _ hE1 hE2 _ _) ?_))
  go_region_law_o (refine step_copy_runI rfl _ _ 32 32 rfl (.slice (some ⟨w.heap.size, (i + 1) * 2, none⟩) (l.length - i) (G - (i + 1))) (.slice (some ⟨g, i * 2, none⟩) (l.length - i) (c - i)) (by simp [Act.eval, Act.put]) (by simp [Act.eval, Act.put]) (hcpB _ hF1 hF2 3 (G - (i + 1)) (c - i)) ?_)
  go_wp2
  go_ret
  obtain ⟨h1, h2⟩ := HEND.out (((w.drew.alloc (.cells ROW 46)).setCells w.heap.size (i * 2) (fldC x)).setCells w.heap.size ((i + 1) * 2) tail) rfl
  rw [show w.drew.alloc (.cells ROW 46) = (w.alloc (.cells ROW 46)).drew from rfl, ← drew_setCells, ← drew_setCells] at h1 h2
  rw [← drew_setCells, ← drew_setCells, ← drew_setCells]
  generalize ((w.alloc (.cells ROW 46)).setCells w.heap.size (i * 2) (fldC x)).setCells w.heap.size ((i + 1) * 2) tail = X at h1 h2 ⊢
  have hd : Below X.drew.heap.size X.drew X.drew.drew := (Below.refl _ _).drew
  exact ⟨_, rfl, h1.below hd, h2.trans ⟨hd.os, hd.tape, hd.output, hd.size, fun k hk _ => hd.block k hk⟩, .inr ⟨_, rfl, Nat.le_refl _⟩⟩
/-- Whatever the room. -/
theorem insF (v : Value) (l : List Fld) (i : Nat) (x : Fld) (base B : Nat) (w : World) (ho : fldR.Own 46 w base (fun _ => False) v l) (hi : i ≤ l.length) (hbase : base ≤ w.heap.size) (hB : Bk w B (fldC x)) (hBo : ∀ k, v.ownBlock = some k → B ≠ k) (hl : l.length ≤ 1000) :
    Calls Tryd.prog 94 #[v, .int .i64 (i : Nat), .slice (some ⟨B, 0, none⟩) 1 1] w (InsD w base v (l.take i ++ x :: l.drop i)) := by
  by_cases he : i = l.length
  · subst he
    rw [List.take_length, List.drop_length]
    exact insEnd v l x base B w ho hbase hB hl
  · obtain ⟨A, c, rfl, hc, _⟩ := ho.sl
    cases A with
    | none =>
      exfalso
      obtain ⟨A2, c2, e, _, hrow⟩ := ho.sl
      injection e with e1
      obtain ⟨ad, e2, _⟩ := hrow.2 0 _ (List.getElem?_eq_getElem (show 0 < l.length by omega))
      rw [← e1] at e2
      cases e2
    | some ad =>
      obtain ⟨g, cs, rfl, _, hg, hbt, h1, h2, h3, h4⟩ := own_open ho
      have hr : Reps (fldR.K w (fun _ => False)) 2 l (cs.take (l.length * 2)) := Reps.mono h4 fun p cs h => fldK.2 (fldK.1 h)
      by_cases hroom : l.length + 1 ≤ c
      · exact insRoom g c cs l i x base B w hg hbt hroom h2 h3 hr (by omega) hB (hBo g rfl) hl
      · exact insGrow g c cs l i x base B w hbase hbt (by omega) hc h3 hr (by omega) hB hl
end Go.Proofs.WK
