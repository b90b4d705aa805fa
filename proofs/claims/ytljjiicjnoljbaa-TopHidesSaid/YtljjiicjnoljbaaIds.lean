/-
  store.Ids (P27).
-/
import Derived.Test.YtljjiicjnoljbaaGet
import Derived.Test.YtljjiicjnoljbaaDat
import Derived.Test.YtljjiicjnoljbaaSorted
namespace Go.Proofs.WK
open Go.RowKit Rp
noncomputable def kS : KT Try.prog 9 ByteArray := strT Try.underlying9
theorem kS_ok {s : ByteArray} (h : idOk s = true) : kS.okk s := Nat.le_trans (idOk_size h).2 (by unfold maxLen; omega)
set_option maxHeartbeats 4000000 in
set_option maxRecDepth 100000 in
theorem storeIds (A : Option Addr) (c : Nat) (l : List Ver) (ok : Nat → Prop) (w : World) (hr : verR.Row w ok A l) (hc : l.length ≤ c) :
    Calls Try.prog 104 #[.slice A l.length c] w fun e w' => ∃ v, e = .returned (.tuple #[v, .int .i64 (storeErr l)]) ∧ str.Sl w' (fun k => w.heap.size ≤ k) v (idsV l) ∧ Below w.heap.size w w' := by
  have HR := Aside.mk hr
  have hmm := @run_makeMap Try.prog
  clear hr
  by_cases h1 : storeErr l = 0
  · have H1 := Aside.mk h1
    have HV := Aside.mk (show idsV l = sortS (idsK l l.length) from if_pos h1)
    have HL := Aside.mk (store_ok h1).1
    rw [h1]
    clear h1
    go_enter Try.func104, Try.ntmps104
    go_wp2_with fail
    refine (storeCheck _ c l _ _ HR.out hc).mono ?_
    rw [H1.out]
    rintro e w1 ⟨rfl, hb⟩
    have HR1 := Aside.mk (HR.out.below hb)
    have HB1 := Aside.mk hb
    clear hb HR
    go_wp2_with fail
    go_loopw [5, 20] (fun o i wr => ∃ k : Nat, k ≤ l.length ∧ i = .int .i64 k ∧ Aside (MapIs kS eB wr w1.heap.size k (seenF l k)) ∧ Aside (str.Own 9 wr (w1.heap.size + 1) (fun _ => False) o (idsK l k)) ∧ Aside (Below w1.heap.size w1 wr)) (fun _ i _ => l.length - (intOf i).toNat)
    case atStart => exact ⟨0, Nat.zero_le _, rfl, ⟨by rw [seenF_zero]; exact MapIs.made _ _ _⟩, ⟨Own.nil _ _ _ _ _⟩, ⟨(Below.refl _ _).alloc (Nat.le_refl _) _⟩⟩
    case round =>
      clear hmm
      obtain ⟨k, hk, rfl, HM, HO, HB⟩ := hrel
      have hL5 : l.length ≤ 5120 := HL.out
      obtain ⟨Ao, co, rfl⟩ := Sl.form HO.out.sl
      by_cases hlt : k < l.length
      · have p0 : (0 : Int) ≤ (k : Int) := by omega
        have p1 : (k : Int) < (l.length : Int) := by omega
        obtain ⟨ad, A1, c1, A2, c2, rfl, _, x0, x1, x2, x3, x4, _, _, _, _⟩ := ver_at (HR1.out.below HB.out) hlt
        have hal : Below wr.heap.size wr (wr.alloc (.cells #[.string l[k].r.id, .int .i64 l[k].r.cats, .slice A1 l[k].r.fields.length c1, .slice A2 l[k].r.refs.length c2, .bool l[k].gone] 129)) := (Below.refl _ _).alloc (Nat.le_refl _) _
        have HBa := Aside.mk (below_step HB.out hal)
        have HMa := Aside.mk (HM.out.below hal)
        have HOa := Aside.mk (HO.out.below hal)
        have hrec := rec_ok (store_rec H1.out l[k] (List.getElem_mem hlt))
        have kok := Aside.mk (kS_ok hrec.1)
        have ek : ∀ z, kS.kv z = Value.string z := fun _ => rfl
        have ee : ∀ z, eB.ev z = Value.bool z := fun _ => rfl
        clear hal hrec
        have hgetD := seenF_get l k l[k].r.id
        cases hs : isId (l.take k) l[k].r.id with
        | true =>
          rw [hs] at hgetD
          have HG := Aside.mk (show (seenF l k l[k].r.id).getD eB.zero = true from hgetD)
          have HM2 : Aside (MapIs kS eB (wr.alloc (.cells #[.string l[k].r.id, .int .i64 l[k].r.cats, .slice A1 l[k].r.fields.length c1, .slice A2 l[k].r.refs.length c2, .bool l[k].gone] 129)) w1.heap.size (k + 1) (seenF l (k + 1))) := ⟨by
            rw [seenF_same hlt hs]
            obtain ⟨D, d1, d2⟩ := HMa.out
            exact ⟨D, d1.mono (by omega), d2⟩⟩
          have HO2 : Aside (str.Own 9 (wr.alloc (.cells #[.string l[k].r.id, .int .i64 l[k].r.cats, .slice A1 l[k].r.fields.length c1, .slice A2 l[k].r.refs.length c2, .bool l[k].gone] 129)) (w1.heap.size + 1) (fun _ => False) (.slice Ao (idsK l k).length co) (idsK l (k + 1))) := ⟨by rw [idsK_seen hlt hs]; exact HOa.out⟩
          clear hgetD
          go_wp2_with (at_lookup; refine map_look (K := kS) (E := eB) rfl _ _ rfl Try.underlying162 rfl HMa.out l[k].r.id rfl kok.out ?_; rw [HG.out])
          refine ⟨⟨k + 1, by omega, by go_num, HM2, HO2, HBa⟩, by simp [intOf]; omega⟩
        | false =>
          rw [hs] at hgetD
          have HG := Aside.mk (show (seenF l k l[k].r.id).getD eB.zero = false from hgetD)
          have HP := Aside.mk (seenF_put hlt)
          have HN : Aside (k < maxLen) := ⟨by have := HL.out; unfold maxLen; omega⟩
          have HKN := Aside.mk (length_idsK l k)
          have hgerr := get_err H1.out l[k].r.id
          have HNE : Aside (∀ j, ((Value.slice Ao (idsK l k).length co).ownBlock = some j) → some j ≠ some w1.heap.size) := ⟨fun j hj => by have := (HOa.out.lt j hj).1; simp; omega⟩
          clear hgetD
          by_cases hg : getI l l[k].r.id < 0
          · rw [if_pos hg] at hgerr
            have HE := Aside.mk hgerr
            have HX := Aside.mk (idsK_gone hlt hs hg)
            clear hgerr hs hg
            go_wp2_with (first
              | (at_lookup; refine map_look (K := kS) (E := eB) rfl _ _ rfl Try.underlying162 rfl HMa.out l[k].r.id rfl kok.out ?_; rw [HG.out])
              | (at_mapUpdate; refine map_put (K := kS) (E := eB) rfl _ _ _ rfl Try.underlying162 rfl HMa.out HN.out l[k].r.id rfl kok.out true rfl trivial ?_
                 intro w3 hm3 hg3
                 rw [HP.out] at hm3
                 have HM3 := Aside.mk hm3
                 have HO3 := Aside.mk (HOa.out.grown hg3 HNE.out (fun _ h => h.elim))
                 have HB3 := Aside.mk (HBa.out.grown hg3 HBa.out.size (fun j hj => by cases hj; exact Nat.le_refl _))
                 clear hm3 hg3))
            refine (storeGet (some ad) c l l[k].r.id ok _ (HR1.out.below HB3.out) hc).mono ?_
            rintro e w4 ⟨v1, v2, rfl, s1, s2, hb⟩
            obtain ⟨A3, c3, rfl⟩ := Sl.form s1
            obtain ⟨A4, c4, rfl⟩ := Sl.form s2
            rw [HE.out]
            have HM4 := Aside.mk (HM3.out.below hb)
            have HO4 := Aside.mk (HO3.out.below hb)
            have HB4 := Aside.mk (below_step HB3.out hb)
            clear hb s1 s2
            go_wp2_with fail
            refine ⟨⟨k + 1, by omega, by go_num, ⟨HM4.out.alloc _⟩, ⟨by rw [HX.out]; exact HO4.out.below ((Below.refl _ _).alloc (Nat.le_refl _) _)⟩, ⟨HB4.out.alloc HB4.out.size _⟩⟩, by simp [intOf]; omega⟩
          · rw [if_neg hg] at hgerr
            have HE := Aside.mk hgerr
            have HX := Aside.mk (idsK_new hlt hs hg)
            clear hgerr hs hg
            go_wp2_with (first
              | (at_lookup; refine map_look (K := kS) (E := eB) rfl _ _ rfl Try.underlying162 rfl HMa.out l[k].r.id rfl kok.out ?_; rw [HG.out])
              | (at_mapUpdate; refine map_put (K := kS) (E := eB) rfl _ _ _ rfl Try.underlying162 rfl HMa.out HN.out l[k].r.id rfl kok.out true rfl trivial ?_
                 intro w3 hm3 hg3
                 rw [HP.out] at hm3
                 have HM3 := Aside.mk hm3
                 have HO3 := Aside.mk (HOa.out.grown hg3 HNE.out (fun _ h => h.elim))
                 have HB3 := Aside.mk (HBa.out.grown hg3 HBa.out.size (fun j hj => by cases hj; exact Nat.le_refl _))
                 clear hm3 hg3))
            refine (storeGet (some ad) c l l[k].r.id ok _ (HR1.out.below HB3.out) hc).mono ?_
            rintro e w4 ⟨v1, v2, rfl, s1, s2, hb⟩
            obtain ⟨A3, c3, rfl⟩ := Sl.form s1
            obtain ⟨A4, c4, rfl⟩ := Sl.form s2
            rw [HE.out]
            have HM4 := Aside.mk (HM3.out.below hb)
            have HO4 := Aside.mk (HO3.out.below hb)
            have HB4 := Aside.mk (below_step HB3.out hb)
            have HS5 : Aside (w1.heap.size ≤ (w4.alloc (.cells #[.string (getR l l[k].r.id).id, .int .i64 (getR l l[k].r.id).cats, .slice A3 (getR l l[k].r.id).fields.length c3, .slice A4 (getR l l[k].r.id).refs.length c4] 58)).heap.size) := ⟨Nat.le_trans HB4.out.size (by simp)⟩
            have HS4 : Aside (w1.heap.size + 1 ≤ ((w4.alloc (.cells #[.string (getR l l[k].r.id).id, .int .i64 (getR l l[k].r.id).cats, .slice A3 (getR l l[k].r.id).fields.length c3, .slice A4 (getR l l[k].r.id).refs.length c4] 58)).alloc (.cells #[.string l[k].r.id] 9)).heap.size) := ⟨by have := HB4.out.size; simp; omega⟩
            have HL4 : Aside (((idsK l k).length + 1) * 16 ≤ 140737488355328) := ⟨by have := HKN.out; have := HL.out; omega⟩
            clear hb s1 s2
            go_wp2_with (at_builtin
                         refine list_one (w0 := (w4.alloc (.cells #[.string (getR l l[k].r.id).id, .int .i64 (getR l l[k].r.id).cats, .slice A3 (getR l l[k].r.id).fields.length c3, .slice A4 (getR l l[k].r.id).refs.length c4] 58)).alloc (.cells #[.string l[k].r.id] 9)) str (w1.heap.size + 1) rfl (.tmp 40) (.tmp 42) 22 9 (.string ByteArray.empty) 16 rfl Try.underlying22 infoSt rfl Nat.one_pos (Nat.succ_pos _) (.slice Ao (idsK l k).length co) (idsK l k) l[k].r.id [.string l[k].r.id] (fun _ => False) (w4.heap.size + 1) 1 rfl rfl (blk_new2 w4 _ _ _) rfl ((HO4.out.below ((Below.refl _ _).alloc (Nat.le_refl _) _)).below ((Below.refl _ _).alloc (Nat.le_refl _) _)) (Below.refl _ _) HS4.out HL4.out ?_
                         intro v1 w5 HO1 HB1 hg hat
                         have HO5 := Aside.mk HO1
                         have HM5 := Aside.mk (((HM4.out.alloc _).alloc _).kept hg (fun e => HNE.out _ e.symm rfl))
                         have HB5 := Aside.mk (((HB4.out.alloc HB4.out.size _).alloc HS5.out _).grown hg (Nat.le_trans HS5.out (by simp)) (fun j hj => Nat.le_trans (Nat.le_succ _) (HO4.out.lt j hj).1))
                         clear HO1 HB1 hg hat)
            refine ⟨⟨k + 1, by omega, by go_num, HM5, ⟨by rw [HX.out]; exact HO5.out⟩, HB5⟩, by simp [intOf]; omega⟩
      · obtain rfl : k = l.length := by omega
        have HLN : Aside ((idsK l l.length).length < 4611686018427387904) := ⟨by have := length_idsK l l.length; have := HL.out; omega⟩
        go_wp2_with fail
        refine (sortStr _ _ _ _ _ _ HO.out HLN.out).mono ?_
        rintro e w3 ⟨rfl, ho, hg⟩
        have HB3 := Aside.mk (HB.out.grown hg HB.out.size (fun j hj => Nat.le_trans (Nat.le_succ _) (HO.out.lt j hj).1))
        have HO3 := Aside.mk ho
        clear hg ho
        go_wp2_with fail
        go_ret2
        exact ⟨_, rfl, by rw [HV.out]; exact HO3.out.sl.mono fun j hj _ => hj.elim False.elim fun hj => Nat.le_trans HB1.out.size (Nat.le_trans (Nat.le_succ _) (HO3.out.lt j hj).1), below_step HB1.out HB3.out⟩
  · have e2 : idsV l = [] := if_neg h1
    have g3 : (storeErr l != 0) = true := by simp [h1]
    rw [e2]
    clear e2 h1 hmm
    go_enter Try.func104, Try.ntmps104
    go_wp2_with fail
    refine (storeCheck _ c l _ _ HR.out hc).mono ?_
    rintro e w1 ⟨rfl, hb⟩
    have HB1 := Aside.mk hb
    clear hb
    go_wp2_with fail
    go_ret2
    exact ⟨_, rfl, Sl.nil _ _ _, HB1.out⟩
end Go.Proofs.WK
