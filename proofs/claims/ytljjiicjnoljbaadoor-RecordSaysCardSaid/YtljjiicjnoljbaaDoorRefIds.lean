/-
  wyref.Ids (P27, as the document's answer).
-/
import Derived.Test.YtljjiicjnoljbaaDoorRefGet
namespace Go.Proofs.WK
open Go.RowKit Rp
theorem nodup_le {α : Type} [DecidableEq α] : ∀ {xs ys : List α}, xs.Nodup → (∀ z ∈ xs, z ∈ ys) → xs.length ≤ ys.length
  | [], _, _, _ => Nat.zero_le _
  | x :: xs, ys, hn, hs => by
    have h1 := List.nodup_cons.1 hn
    have hx := hs x (List.mem_cons_self ..)
    have h2 := nodup_le (ys := ys.erase x) h1.2 fun z hz => (List.mem_erase_of_ne (fun e => h1.1 (by subst e; exact hz))).2 (hs z (List.mem_cons_of_mem _ hz))
    rw [List.length_erase_of_mem hx] at h2
    have := List.length_pos_of_mem hx
    simp
    omega
def allF (l : List Ver) (k : Nat) (z : ByteArray) : Option Bool := if isId (l.take k) z = true ∧ 0 ≤ getI l z then some true else none
theorem allF_zero (l : List Ver) : allF l 0 = fun _ => none := by
  funext z
  simp [allF, isId]
theorem allF_some {l : List Ver} {k : Nat} {z : ByteArray} : (allF l k z).isSome = true ↔ isId (l.take k) z = true ∧ 0 ≤ getI l z := by
  unfold allF
  split
  · rename_i h; simp [h]
  · rename_i h; simp [h]
theorem allF_get (l : List Ver) (k : Nat) (z : ByteArray) : (allF l k z).getD false = (allF l k z).isSome := by
  unfold allF
  split <;> rfl
theorem allF_put {l : List Ver} {k : Nat} (hk : k < l.length) (hg : 0 ≤ getI l l[k].r.id) : (fun z => if z = l[k].r.id then some true else allF l k z) = allF l (k + 1) := by
  funext z
  unfold allF
  rw [isId_step hk]
  by_cases h : z = l[k].r.id
  · subst h; simp [hg]
  · rw [if_neg h]
    have h2 : decide (l[k].r.id = z) = false := by simp; exact fun e => h e.symm
    rw [h2, Bool.or_false]
theorem allF_gone {l : List Ver} {k : Nat} (hk : k < l.length) (hg : ¬ 0 ≤ getI l l[k].r.id) : allF l (k + 1) = allF l k := by
  funext z
  unfold allF
  rw [isId_step hk]
  by_cases h : z = l[k].r.id
  · subst h; rw [if_neg fun h => hg h.2, if_neg fun h => hg h.2]
  · have h2 : decide (l[k].r.id = z) = false := by simp; exact fun e => h e.symm
    rw [h2, Bool.or_false]
theorem allF_same {l : List Ver} {k : Nat} (hk : k < l.length) (h : (allF l k l[k].r.id).isSome = true) : allF l (k + 1) = allF l k := by
  rw [← allF_put hk (allF_some.1 h).2]
  funext z
  by_cases hz : z = l[k].r.id
  · subst hz
    rw [if_pos rfl]
    have := allF_some.1 h
    unfold allF
    rw [if_pos this]
  · rw [if_neg hz]
theorem Ranging.left_kept {P : Program} {k e : TypeId} {κ ε : Type} {K : KT P k κ} {E : ET P e ε} {w w' : World} {b r n : Nat} {f : κ → Option ε} {left : κ → Prop} (h : Ranging K E w b r n f left) {row : Option Nat} (hg : w.grownBy w' row) (hb : some b ≠ row) (hr : some r ≠ row) : w'.rangeLeft b r = w.rangeLeft b r := by
  obtain ⟨D, lf, cnt, h1, _⟩ := h
  have h2 := h1.kept hg hb hr
  rw [h1.left_eq, h2.left_eq]
set_option maxHeartbeats 4000000 in
set_option maxRecDepth 100000 in
theorem refIds (A : Option Addr) (c : Nat) (l : List Ver) (ok : Nat → Prop) (w : World) (hr : verR.Row w ok A l) (h0 : storeErr l = 0) :
    Calls Tryd.prog 39 #[.slice A l.length c] w fun e w' => ∃ v, e = .returned v ∧ str.Sl w' (fun k => w.heap.size ≤ k) v (idsV l) ∧ Below w.heap.size w w' := by
  have HR := Aside.mk hr
  have H0 := Aside.mk h0
  have HL := Aside.mk (store_ok h0).1
  have hmm := @run_makeMap Tryd.prog
  clear hr h0
  go_enter Tryd.func39, Tryd.ntmps39
  go_wp2_with fail
  go_loopw [11] (fun i wr => ∃ k : Nat, k ≤ l.length ∧ i = .int .i64 k ∧ Aside (MapIs kS eB wr w.heap.size k (allF l k)) ∧ Aside (Below w.heap.size w wr)) (fun i _ => l.length - (intOf i).toNat)
  case atStart => exact ⟨0, Nat.zero_le _, rfl, ⟨by rw [allF_zero]; exact MapIs.made _ _ _⟩, ⟨(Below.refl _ _).alloc (Nat.le_refl _) _⟩⟩
  case round =>
    clear hmm
    obtain ⟨k, hk, rfl, HM, HB⟩ := hrel
    have hL5 : l.length ≤ 5120 := HL.out
    have ek : ∀ z, kS.kv z = Value.string z := fun _ => rfl
    have ee : ∀ z, eB.ev z = Value.bool z := fun _ => rfl
    by_cases hlt : k < l.length
    · have p0 : (0 : Int) ≤ (k : Int) := by omega
      have p1 : (k : Int) < (l.length : Int) := by omega
      obtain ⟨ad, A1, c1, A2, c2, rfl, _, x0, x1, x2, x3, x4, _, _, _, _⟩ := ver_at (HR.out.below HB.out) hlt
      have hal : Below wr.heap.size wr (wr.alloc (.cells #[.string l[k].r.id, .int .i64 l[k].r.cats, .slice A1 l[k].r.fields.length c1, .slice A2 l[k].r.refs.length c2, .bool l[k].gone] 62)) := (Below.refl _ _).alloc (Nat.le_refl _) _
      have HBa := Aside.mk (below_step HB.out hal)
      have HMa := Aside.mk (HM.out.below hal)
      have HQa := Aside.mk (Bk.made wr [.string l[k].r.id, .int .i64 l[k].r.cats, .slice A1 l[k].r.fields.length c1, .slice A2 l[k].r.refs.length c2, .bool l[k].gone] 62)
      have hrec := rec_ok (store_rec H0.out l[k] (List.getElem_mem hlt))
      have kok := Aside.mk (kS_ok hrec.1)
      have HN : Aside (k < maxLen) := ⟨by have := HL.out; unfold maxLen; omega⟩
      have hgetD := allF_get l k l[k].r.id
      clear hal hrec
      cases hs : (allF l k l[k].r.id).isSome with
      | true =>
        rw [hs] at hgetD
        have HG := Aside.mk (show (allF l k l[k].r.id).getD eB.zero = true from hgetD)
        have HM2 : Aside (MapIs kS eB (wr.alloc (.cells #[.string l[k].r.id, .int .i64 l[k].r.cats, .slice A1 l[k].r.fields.length c1, .slice A2 l[k].r.refs.length c2, .bool l[k].gone] 62)) w.heap.size (k + 1) (allF l (k + 1))) := ⟨by
          rw [allF_same hlt hs]
          obtain ⟨D, d1, d2⟩ := HMa.out
          exact ⟨D, d1.mono (by omega), d2⟩⟩
        clear hgetD hs
        go_wp2_with (at_lookup; refine map_look (K := kS) (E := eB) rfl _ _ rfl Tryd.underlying106 rfl HMa.out l[k].r.id rfl kok.out ?_; rw [HG.out])
        refine ⟨⟨k + 1, by omega, by go_num, HM2, HBa⟩, by simp [intOf]; omega⟩
      | false =>
        rw [hs] at hgetD
        have HG := Aside.mk (show (allF l k l[k].r.id).getD eB.zero = false from hgetD)
        clear hgetD hs
        by_cases hg : 0 ≤ getI l l[k].r.id
        · have HP := Aside.mk (allF_put hlt hg)
          have g1 : decide ((0 : Int) ≤ getI l l[k].r.id) = true := decide_eq_true hg
          clear hg
          go_wp2_with (first
            | (at_lookup; refine map_look (K := kS) (E := eB) rfl _ _ rfl Tryd.underlying106 rfl HMa.out l[k].r.id rfl kok.out ?_; rw [HG.out])
            | (go_at_call 41; refine (refGet _ _ _ l l[k].r.id ok _ (HR.out.below HBa.out) rfl).mono ?_; rintro e w2 ⟨rfl, hb⟩
               have HM2 := Aside.mk (HMa.out.below hb); have HB2 := Aside.mk (below_step HBa.out hb); have q2 := (HQa.out.below hb).five; clear hb)
            | (at_mapUpdate; refine map_put (K := kS) (E := eB) rfl _ _ _ rfl Tryd.underlying106 rfl HM2.out HN.out l[k].r.id rfl kok.out true rfl trivial ?_
               intro w3 hm3 hg3
               rw [HP.out] at hm3
               have HM3 := Aside.mk hm3
               have HB3 := Aside.mk (HB2.out.grown hg3 HB2.out.size (fun j hj => by cases hj; exact Nat.le_refl _))
               clear hm3 hg3))
          refine ⟨⟨k + 1, by omega, by go_num, HM3, HB3⟩, by simp [intOf]; omega⟩
        · have HX := Aside.mk (allF_gone hlt hg)
          have g1 : decide ((0 : Int) ≤ getI l l[k].r.id) = false := decide_eq_false hg
          clear hg
          go_wp2_with (first
            | (at_lookup; refine map_look (K := kS) (E := eB) rfl _ _ rfl Tryd.underlying106 rfl HMa.out l[k].r.id rfl kok.out ?_; rw [HG.out])
            | (go_at_call 41; refine (refGet _ _ _ l l[k].r.id ok _ (HR.out.below HBa.out) rfl).mono ?_; rintro e w2 ⟨rfl, hb⟩
               have HM2 := Aside.mk (HMa.out.below hb); have HB2 := Aside.mk (below_step HBa.out hb); have q2 := (HQa.out.below hb).five; clear hb))
          have HM3 : Aside (MapIs kS eB w2 w.heap.size (k + 1) (allF l (k + 1))) := ⟨by
            rw [HX.out]
            obtain ⟨D, d1, d2⟩ := HM2.out
            exact ⟨D, d1.mono (by omega), d2⟩⟩
          refine ⟨⟨k + 1, by omega, by go_num, HM3, HB2⟩, by simp [intOf]; omega⟩
    · obtain rfl : k = l.length := by omega
      go_wp2_with (at_range; refine map_range (K := kS) (E := eB) rfl _ rfl Tryd.underlying106 rfl HM.out ?_; intro w2 hrg hb2; have HR2 := Aside.mk hrg; have HB2 := Aside.mk (below_step HB.out hb2); clear hrg hb2)
      have hgw : w.heap.size ≤ wr.heap.size := HB.out.size
      have hmw : w.heap.size < wr.heap.size := HM.out.lt
      have hg22 := HR2.out.lt
      clear HB HM
      generalize hg2 : wr.heap.size = g at *
      have HG := Aside.mk hg2
      clear hg2
      have HGW := Aside.mk hgw
      have HMW := Aside.mk hmw
      clear hgw hmw hg22
      go_frame
      go_loopw [6] (fun o wr => ∃ (left : ByteArray → Prop) (xs : List ByteArray), Aside (Ranging kS eB wr w.heap.size g l.length (allF l l.length) left) ∧ Aside (str.Own 9 wr (g + 1) (fun _ => False) o xs) ∧ Aside (xs.Nodup ∧ (∀ z ∈ xs, kS.okk z) ∧ ∀ z, kS.okk z → (z ∈ xs ↔ (allF l l.length z).isSome = true ∧ ¬ left z)) ∧ Aside (Below w.heap.size w wr)) (fun _ wr => wr.rangeLeft w.heap.size g)
      case atStart => exact ⟨_, [], HR2, ⟨Own.nil _ _ _ _ _⟩, ⟨⟨List.nodup_nil, fun _ h => (List.not_mem_nil h).elim, fun z _ => ⟨fun h => (List.not_mem_nil h).elim, fun h => absurd h.1 h.2⟩⟩⟩, HB2⟩
      case round =>
        clear HR2 HB2
        obtain ⟨left, xs, HR2, HO, HS, HB2⟩ := hrel
        obtain ⟨Ao, co, rfl⟩ := Sl.form HO.out.sl
        have hxl : xs.length ≤ l.length := Nat.le_trans (nodup_le HS.out.1 fun z hz => (mem_idsK l z _ (Nat.le_refl _)).2 (allF_some.1 ((HS.out.2.2 z (HS.out.2.1 z hz)).1 hz).1)) (length_idsK l _)
        have HXL : Aside ((xs.length + 1) * 16 ≤ 140737488355328) := ⟨by omega⟩
        have HX62 : Aside (xs.length < 4611686018427387904) := ⟨by omega⟩
        have HGL := Aside.mk HR2.out.lt
        have HNE : Aside (∀ j, ((Value.slice Ao xs.length co).ownBlock = some j) → g + 1 ≤ j) := ⟨fun j hj => (HO.out.lt j hj).1⟩
        clear hxl
        go_wp2_with (first
          | (at_next; refine map_next (K := kS) (E := eB) rfl _ rfl rfl HR2.out ?_ ?_; all_goals (first | (intro z v w3 hz hlz hf hrg hlt hgr hsz hen; have HZ := Aside.mk (And.intro hz (And.intro hlz hf)); have HR3 := Aside.mk hrg; have HL3 := Aside.mk hlt; have HB3 := Aside.mk (HB2.out.grown hgr HB2.out.size (fun j hj => by cases hj; exact HGW.out)); have HO3 := Aside.mk (HO.out.grown hgr (fun j hj e => by have := HNE.out j hj; injection e with e; omega) (fun _ h => h.elim)); have HS3 := Aside.mk hsz; clear hz hlz hf hrg hlt hgr hsz) | (intro hdone; have HD := Aside.mk hdone; clear hdone)))
          | (at_builtin
             refine list_one (w0 := w3.alloc (.cells #[.string z] 9)) str (g + 1) rfl (.tmp 40) (.tmp 42) 33 9 (.string ByteArray.empty) 16 rfl Tryd.underlying33 infoSt rfl Nat.one_pos (Nat.succ_pos _) (.slice Ao xs.length co) xs z [.string z] (fun _ => False) w3.heap.size 1 rfl rfl (blk_new w3 _ _) rfl (HO3.out.below ((Below.refl _ _).alloc (Nat.le_refl _) _)) (Below.refl _ _) (by have := HGL.out; have := HS3.out; simp; omega) HXL.out ?_
             intro v1 w5 HO1 HB1 hg hat
             have HO5 := Aside.mk HO1
             have hn1 : some w.heap.size ≠ (Value.slice Ao xs.length co).ownBlock := fun e => by have := HNE.out _ e.symm; have := HGW.out; omega
             have hn2 : some g ≠ (Value.slice Ao xs.length co).ownBlock := fun e => by have := HNE.out _ e.symm; omega
             have hra := HR3.out.below (w' := w3.alloc (.cells #[.string z] 9)) ((Below.refl _ _).alloc (Nat.le_refl _) _)
             have HR5 := Aside.mk (hra.kept hg hn1 hn2)
             have HL5 := Aside.mk ((hra.left_kept hg hn1 hn2).trans (HR3.out.left_below ((Below.refl _ _).alloc (Nat.le_refl _) _)))
             have HB5 := Aside.mk ((HB3.out.alloc HB3.out.size _).grown hg (Nat.le_trans HB3.out.size (by simp)) (fun j hj => Nat.le_trans (Nat.le_trans HGW.out (Nat.le_succ _)) (HNE.out j hj)))
             clear HO1 HB1 hg hat hn1 hn2 hra))
        · refine (sortStrL _ _ _ _ _ _ HO.out HX62.out).mono ?_
          rintro e w3 ⟨rfl, ho, hg⟩
          have HB3 := Aside.mk (HB2.out.grown hg HB2.out.size (fun j hj => Nat.le_trans (Nat.le_trans HGW.out (Nat.le_succ _)) (HNE.out j hj)))
          have HE := Aside.mk (ids_ext H0.out HS.out.1 fun z => by
            by_cases hz : kS.okk z
            · rw [HS.out.2.2 z hz, allF_some, List.take_length]
              exact and_iff_left (HD.out z hz)
            · constructor
              · intro h; exact absurd (HS.out.2.1 z h) hz
              · rintro ⟨h, _⟩
                obtain ⟨v, hv, rfl⟩ := isId_iff.1 h
                exact absurd (kS_ok (rec_ok (store_rec H0.out v hv)).1) hz)
          have HO3 := Aside.mk ho
          clear hg ho
          go_wp2_with fail
          go_ret
          exact ⟨_, rfl, by rw [← HE.out]; exact HO3.out.sl.mono fun j hj _ => hj.elim False.elim fun hj => Nat.le_trans (Nat.le_trans HGW.out (Nat.le_succ _)) (HO3.out.lt j hj).1, HB3.out⟩
        · refine ⟨⟨_, xs ++ [z], HR5, HO5, ⟨⟨?_, ?_, ?_⟩⟩, HB5⟩, by rw [HL5.out]; exact HL3.out⟩
          · refine List.nodup_append.2 ⟨HS.out.1, by simp, fun a ha b hb => ?_⟩
            simp at hb
            subst hb
            intro e
            subst e
            exact ((HS.out.2.2 _ HZ.out.1).1 ha).2 HZ.out.2.1
          · intro y hy
            rcases List.mem_append.1 hy with hy | hy
            · exact HS.out.2.1 y hy
            · simp at hy; subst hy; exact HZ.out.1
          · intro y hy
            rw [List.mem_append, HS.out.2.2 y hy]
            constructor
            · rintro (⟨h1, h2⟩ | h1)
              · exact ⟨h1, fun h => h2 h.1⟩
              · simp at h1; subst h1; exact ⟨by rw [HZ.out.2.2]; rfl, fun h => h.2 rfl⟩
            · rintro ⟨h1, h2⟩
              by_cases e : y = z
              · subst e; exact .inr (by simp)
              · exact .inl ⟨h1, fun h => h2 ⟨h, e⟩⟩
end Go.Proofs.WK
