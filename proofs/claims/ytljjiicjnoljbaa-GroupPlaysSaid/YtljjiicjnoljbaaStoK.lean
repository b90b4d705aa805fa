/-
  store.Check (P21).
-/
import Derived.Test.YtljjiicjnoljbaaStoC
import Derived.Test.YtljjiicjnoljbaaRecC
import Derived.Test.YtljjiicjnoljbaaWk0
namespace Go.Proofs.WK
open Go.RowKit Rp
theorem Bk.grown {w w' : World} {n : Nat} {cs : List Value} {row : Option Nat} (h : Bk w n cs) (hg : w.grownBy w' row) (hne : some n ≠ row) : Bk w' n cs := by
  obtain ⟨t, h1⟩ := h
  exact ⟨t, (hg.block n (Array.getElem?_eq_some_iff.1 h1).1 hne).trans h1⟩
noncomputable def kI : KT Try.prog 3 Int := i64T Try.underlying3
theorem zeroInt (w : World) : (zeroValue 3).run Try.prog w = .ok (.int .i64 0) w := by kernel_rfl
noncomputable def eI : ET Try.prog 3 Int := i64E Try.underlying3 zeroInt
def cntF (l : List Ver) (k : Nat) (x : Int) : Option Int := if sameN (l.take k) x = 0 then none else some (sameN (l.take k) x)
theorem cnt_get (l : List Ver) (k : Nat) (x : Int) : (cntF l k x).getD eI.zero = (sameN (l.take k) x : Int) := by
  unfold cntF
  split
  · rename_i h; rw [h]; rfl
  · rfl
theorem cnt_put {l : List Ver} {k : Nat} (hk : k < l.length) : (fun z => if z = l[k].r.cats then some ((sameN (l.take (k + 1)) l[k].r.cats : Nat) : Int) else cntF l k z) = cntF l (k + 1) := by
  funext z
  unfold cntF
  by_cases h : z = l[k].r.cats
  · subst h
    have := sameN_step hk l[k].r.cats
    rw [if_pos rfl] at this
    rw [if_pos rfl, if_neg (by omega)]
  · have e : sameN (l.take (k + 1)) z = sameN (l.take k) z := by rw [sameN_step hk z, if_neg (fun e => h e.symm)]; rfl
    rw [if_neg h, e]
theorem cnt_zero (l : List Ver) : cntF l 0 = fun _ => none := by
  funext z
  rfl
theorem store_hit {l : List Ver} {k : Nat} (h5 : ¬ 5120 < l.length) (hk : k < l.length) (h : firstI (verErr l) k = 0) {x : Int} (hx : x ≠ 0) (hv : verErr l k = x) : storeErr l = x := by
  rw [storeErr, if_neg h5, firstI_hit hk h (by rw [hv]; exact hx), hv]
/-- Five ways of what is gone, as the code asks. -/
theorem gone_ways (l : List Ver) (v : Ver) (k : Nat) (hk : k ≤ l.length) :
    (v.gone = false ∧ Aside (goneBad l v k = false)) ∨ ((v.gone = true ∧ 0 < v.r.fields.length) ∧ Aside (goneBad l v k = true)) ∨ ((v.gone = true ∧ decide (0 < v.r.fields.length) = false ∧ 0 < v.r.refs.length) ∧ Aside (goneBad l v k = true)) ∨
    ((v.gone = true ∧ decide (0 < v.r.fields.length) = false ∧ decide (0 < v.r.refs.length) = false ∧ livesB (l.take k) v.r.id v.r.cats = false) ∧ Aside (goneBad l v k = true)) ∨
    ((v.gone = true ∧ decide (0 < v.r.fields.length) = false ∧ decide (0 < v.r.refs.length) = false ∧ livesB (l.take k) v.r.id v.r.cats = true) ∧ Aside (goneBad l v k = false)) := by
  have e : livesB (l.take k) v.r.id v.r.cats = !decide (livesK l v.r.id v.r.cats k < 0) := by
    unfold livesB
    rw [livesI_take hk]
    by_cases h : livesK l v.r.id v.r.cats k < 0
    · rw [decide_eq_true h, decide_eq_false (by omega)]; rfl
    · rw [decide_eq_false h, decide_eq_true (by omega)]; rfl
  unfold goneBad
  cases hg : v.gone
  · exact .inl ⟨rfl, ⟨rfl⟩⟩
  · by_cases h1 : 0 < v.r.fields.length
    · exact .inr (.inl ⟨⟨rfl, h1⟩, ⟨by rw [decide_eq_true h1]; rfl⟩⟩)
    · by_cases h2 : 0 < v.r.refs.length
      · exact .inr (.inr (.inl ⟨⟨rfl, decide_eq_false h1, h2⟩, ⟨by rw [decide_eq_true h2]; simp⟩⟩))
      · rw [decide_eq_false h1, decide_eq_false h2, e]
        cases decide (livesK l v.r.id v.r.cats k < 0)
        · exact .inr (.inr (.inr (.inr ⟨⟨rfl, rfl, rfl, rfl⟩, ⟨rfl⟩⟩)))
        · exact .inr (.inr (.inr (.inl ⟨⟨rfl, rfl, rfl, rfl⟩, ⟨rfl⟩⟩)))
set_option maxHeartbeats 4000000 in
set_option maxRecDepth 100000 in
theorem storeCheck (A : Option Addr) (c : Nat) (l : List Ver) (ok : Nat → Prop) (w : World) (hr : verR.Row w ok A l) (hc : l.length ≤ c) :
    Calls Try.prog 81 #[.slice A l.length c] w fun e w' => e = .returned (.int .i64 (storeErr l)) ∧ Below w.heap.size w w' := by
  have hm := hr.1
  have HR := Aside.mk hr
  clear hr
  have hmm := @run_makeMap Try.prog
  by_cases h5 : 5120 < l.length
  · have H := Aside.mk (show storeErr l = 2 from if_pos h5)
    have g5 : decide ((5120 : Int) < (l.length : Int)) = true := by simp; omega
    clear h5
    go_enter Try.func81, Try.ntmps81
    go_wp2_with fail
    go_ret
    exact ⟨by rw [H.out]; rfl, Below.refl _ _⟩
  · have H5 := Aside.mk h5
    have g5 : decide ((5120 : Int) < (l.length : Int)) = false := by simp; omega
    have hlen : l.length ≤ 5120 := by omega
    clear h5
    go_enter Try.func81, Try.ntmps81
    go_wp2_with fail
    go_loopw [13] (fun i wr => ∃ k : Nat, k ≤ l.length ∧ i = .int .i64 k ∧ Aside (firstI (verErr l) k = 0) ∧ Aside (MapIs kI eI wr w.heap.size k (cntF l k)) ∧ Aside (Below w.heap.size w wr)) (fun i _ => l.length - (intOf i).toNat)
    case atStart => exact ⟨0, Nat.zero_le _, rfl, ⟨rfl⟩, ⟨by rw [cnt_zero]; exact MapIs.made _ _ _⟩, ⟨(Below.refl _ _).alloc (Nat.le_refl _) _⟩⟩
    case round =>
      clear hmm
      obtain ⟨k, hk, rfl, HK, HM, HB⟩ := hrel
      by_cases hlt : k < l.length
      · obtain ⟨ad, A1, c1, A2, c2, rfl, _, x0, x1, x2, x3, x4, l1, l2, r1, r2⟩ := ver_at (HR.out.below HB.out) hlt
        have hal : Below wr.heap.size wr (wr.alloc (.cells #[.string l[k].r.id, .int .i64 l[k].r.cats, .slice A1 l[k].r.fields.length c1, .slice A2 l[k].r.refs.length c2, .bool l[k].gone] 129)) := (Below.refl _ _).alloc (Nat.le_refl _) _
        have HQ := Aside.mk (Bk.made wr [.string l[k].r.id, .int .i64 l[k].r.cats, .slice A1 l[k].r.fields.length c1, .slice A2 l[k].r.refs.length c2, .bool l[k].gone] 129)
        have HM1 := Aside.mk (HM.out.below hal)
        have HB1 := Aside.mk (below_step HB.out hal)
        have R1 := Aside.mk (r1.below hal)
        have R2 := Aside.mk (r2.below hal)
        have HV := Aside.mk (verErr_at hlt)
        have hsz1 := HM.out.lt
        clear hal r1 r2 HM
        by_cases he : recErr l[k].r = 0
        · have hrec := rec_ok he
          have HE := Aside.mk he
          have hc0 := hrec.2.1
          have hc1 := hrec.2.2.1
          clear hrec he
          have hS := sameN_step hlt l[k].r.cats
          rw [if_pos rfl] at hS
          have hs0 : sameN (l.take k) l[k].r.cats ≤ k := Nat.le_trans (sameN_le _ _) (List.length_take_le _ _)
          have hS1 : ((sameN (l.take k) l[k].r.cats : Nat) : Int) + 1 = ((sameN (l.take (k + 1)) l[k].r.cats : Nat) : Int) := by omega
          have HS := Aside.mk hS1
          have HP := Aside.mk (cnt_put hlt)
          have hg := cnt_get l k l[k].r.cats
          have HG := Aside.mk hg
          have HG1 := Aside.mk (cnt_get l (k + 1) l[k].r.cats)
          clear hS hS1 hg
          go_wp2_with fail
          refine (recCheck l[k].r A1 A2 c1 c2 _ _ _ R1.out R2.out).mono ?_
          rw [HE.out]
          rintro e w2 ⟨rfl, hb⟩
          have HM2 := Aside.mk (HM1.out.below hb)
          have HQ2 := Aside.mk (HQ.out.below hb)
          have HB2 := Aside.mk (below_step HB1.out hb)
          have HR2 := Aside.mk (HR.out.below HB2.out)
          clear hb HM1 HQ HB1 R1 R2
          have q0 := HQ2.out.five
          have hsz := HM2.out.lt
          have hgs := HB.out.size
          have kok := Aside.mk (i64_wf (x := l[k].r.cats) (by omega) (by omega))
          have hne : wr.heap.size ≠ w.heap.size := by
            have := HB.out.size
            have := hsz1
            omega
          have HNE := Aside.mk hne
          have yok := Aside.mk (i64_wf (x := ((sameN (l.take (k + 1)) l[k].r.cats : Nat) : Int)) (by omega) (by have := HS.out; omega))
          have h0 : (0 : Int) ≤ ((sameN (l.take k) l[k].r.cats : Nat) : Int) := by omega
          have h1 : ((sameN (l.take k) l[k].r.cats : Nat) : Int) < 9223372036854775807 := by omega
          have ek : ∀ z, kI.kv z = Value.int .i64 z := fun _ => rfl
          have ee : ∀ z, eI.ev z = Value.int .i64 z := fun _ => rfl
          clear hne hsz hsz1 hgs hs0 hc0 hc1
          rcases (by by_cases h : 20 < sameN (l.take (k + 1)) l[k].r.cats; exact .inl h; exact .inr h : 20 < sameN (l.take (k + 1)) l[k].r.cats ∨ ¬ 20 < sameN (l.take (k + 1)) l[k].r.cats) with h20 | h20
          · have HX := Aside.mk (store_hit H5.out hlt HK.out (x := 2) (by decide) (by rw [HV.out, if_neg (by simpa using HE.out), if_pos h20]))
            have g20 : decide ((20 : Int) < ((sameN (l.take (k + 1)) l[k].r.cats : Nat) : Int)) = true := by simp; omega
            clear h20
            go_wp2_with (first
              | (at_lookup; refine map_look (K := kI) (E := eI) rfl _ _ rfl Try.underlying155 rfl HM3.out l[k].r.cats rfl kok.out ?_; rw [HG1.out])
              | (at_lookup; refine map_look (K := kI) (E := eI) rfl _ _ rfl Try.underlying155 rfl HM2.out l[k].r.cats rfl kok.out ?_; rw [HG.out])
              | (at_mapUpdate; refine map_put (K := kI) (E := eI) rfl _ _ _ rfl Try.underlying155 rfl HM2.out (Nat.lt_of_le_of_lt (Nat.le_trans hk hlen) (by unfold maxLen; omega)) l[k].r.cats rfl kok.out _ (congrArg (Value.int .i64) HS.out) yok.out ?_
                 intro w3 hm3 hg3
                 rw [HP.out] at hm3
                 have HM3 := Aside.mk hm3
                 have q1 := (HQ2.out.grown hg3 (by simpa using HNE.out)).five
                 have HB3 := Aside.mk (HB2.out.grown hg3 HB2.out.size (fun j hj => by cases hj; exact Nat.le_refl _))
                 clear hm3 hg3))
            go_ret
            exact ⟨by rw [HX.out]; rfl, HB3.out⟩
          · have g20 : decide ((20 : Int) < ((sameN (l.take (k + 1)) l[k].r.cats : Nat) : Int)) = false := by simp; omega
            have hverr : verErr l k = if goneBad l l[k] k = true then 3 else 0 := by rw [HV.out, if_neg (by simpa using HE.out), if_neg h20]
            have HW := Aside.mk hverr
            have p0 : (0 : Int) ≤ (k : Int) := by omega
            have p1 : (k : Int) ≤ (c : Int) := by omega
            have htk : (l.take k).length = k := by simp; omega
            have HT := Aside.mk htk
            clear h20 hverr htk
            rcases gone_ways l l[k] k (Nat.le_of_lt hlt) with ⟨a1, HX⟩ | ⟨⟨a1, a2⟩, HX⟩ | ⟨⟨a1, a2, a3⟩, HX⟩ | ⟨⟨a1, a2, a3, a4⟩, HX⟩ | ⟨⟨a1, a2, a3, a4⟩, HX⟩
            · rw [a1] at HQ2 q0 x4
              go_wp2_with (first
                | (at_lookup; refine map_look (K := kI) (E := eI) rfl _ _ rfl Try.underlying155 rfl HM3.out l[k].r.cats rfl kok.out ?_; rw [HG1.out])
                | (at_lookup; refine map_look (K := kI) (E := eI) rfl _ _ rfl Try.underlying155 rfl HM2.out l[k].r.cats rfl kok.out ?_; rw [HG.out])
                | (at_mapUpdate; refine map_put (K := kI) (E := eI) rfl _ _ _ rfl Try.underlying155 rfl HM2.out (Nat.lt_of_le_of_lt (Nat.le_trans hk hlen) (by unfold maxLen; omega)) l[k].r.cats rfl kok.out _ (congrArg (Value.int .i64) HS.out) yok.out ?_
                   intro w3 hm3 hg3
                   rw [HP.out] at hm3
                   have HM3 := Aside.mk hm3
                   have q1 := (HQ2.out.grown hg3 (by simpa using HNE.out)).five
                   have HB3 := Aside.mk (HB2.out.grown hg3 HB2.out.size (fun j hj => by cases hj; exact Nat.le_refl _))
                   clear hm3 hg3))
              go_quiet ((go_at_call 108; exact Calls.quiet_of_same ((storeLives (some ad) k c (l.take k) l[k].r.id l[k].r.cats ok _ ((HR.out.below (below_drewN HB3.out _)).take k) HT.out).mono fun _ _ h => ⟨h.1.trans (by rw [a4]), h.2.symm⟩)))
              go_wp2
              refine ⟨⟨k + 1, by omega, by go_num, ⟨firstI_step HK.out (by rw [HW.out, HX.out]; rfl)⟩, ⟨HM3.out.below (below_drewN (Below.refl _ _) _)⟩, ⟨below_drewN HB3.out _⟩⟩, by simp [intOf]; omega⟩
            · rw [a1] at HQ2 q0 x4
              go_wp2_with (first
                | (at_lookup; refine map_look (K := kI) (E := eI) rfl _ _ rfl Try.underlying155 rfl HM3.out l[k].r.cats rfl kok.out ?_; rw [HG1.out])
                | (at_lookup; refine map_look (K := kI) (E := eI) rfl _ _ rfl Try.underlying155 rfl HM2.out l[k].r.cats rfl kok.out ?_; rw [HG.out])
                | (at_mapUpdate; refine map_put (K := kI) (E := eI) rfl _ _ _ rfl Try.underlying155 rfl HM2.out (Nat.lt_of_le_of_lt (Nat.le_trans hk hlen) (by unfold maxLen; omega)) l[k].r.cats rfl kok.out _ (congrArg (Value.int .i64) HS.out) yok.out ?_
                   intro w3 hm3 hg3
                   rw [HP.out] at hm3
                   have HM3 := Aside.mk hm3
                   have q1 := (HQ2.out.grown hg3 (by simpa using HNE.out)).five
                   have HB3 := Aside.mk (HB2.out.grown hg3 HB2.out.size (fun j hj => by cases hj; exact Nat.le_refl _))
                   clear hm3 hg3))
              go_quiet ((go_at_call 108; exact Calls.quiet_of_same ((storeLives (some ad) k c (l.take k) l[k].r.id l[k].r.cats ok _ ((HR.out.below (below_drewN HB3.out _)).take k) HT.out).mono fun _ _ h => ⟨h.1.trans (by rw [a4]), h.2.symm⟩)))
              go_wp2
              have HY := Aside.mk (store_hit H5.out hlt HK.out (x := 3) (by decide) (by rw [HW.out, HX.out]; rfl))
              go_ret
              exact ⟨by rw [HY.out]; rfl, below_drewN HB3.out _⟩
            · rw [a1] at HQ2 q0 x4
              go_wp2_with (first
                | (at_lookup; refine map_look (K := kI) (E := eI) rfl _ _ rfl Try.underlying155 rfl HM3.out l[k].r.cats rfl kok.out ?_; rw [HG1.out])
                | (at_lookup; refine map_look (K := kI) (E := eI) rfl _ _ rfl Try.underlying155 rfl HM2.out l[k].r.cats rfl kok.out ?_; rw [HG.out])
                | (at_mapUpdate; refine map_put (K := kI) (E := eI) rfl _ _ _ rfl Try.underlying155 rfl HM2.out (Nat.lt_of_le_of_lt (Nat.le_trans hk hlen) (by unfold maxLen; omega)) l[k].r.cats rfl kok.out _ (congrArg (Value.int .i64) HS.out) yok.out ?_
                   intro w3 hm3 hg3
                   rw [HP.out] at hm3
                   have HM3 := Aside.mk hm3
                   have q1 := (HQ2.out.grown hg3 (by simpa using HNE.out)).five
                   have HB3 := Aside.mk (HB2.out.grown hg3 HB2.out.size (fun j hj => by cases hj; exact Nat.le_refl _))
                   clear hm3 hg3))
              go_quiet ((go_at_call 108; exact Calls.quiet_of_same ((storeLives (some ad) k c (l.take k) l[k].r.id l[k].r.cats ok _ ((HR.out.below (below_drewN HB3.out _)).take k) HT.out).mono fun _ _ h => ⟨h.1.trans (by rw [a4]), h.2.symm⟩)))
              go_wp2
              have HY := Aside.mk (store_hit H5.out hlt HK.out (x := 3) (by decide) (by rw [HW.out, HX.out]; rfl))
              go_ret
              exact ⟨by rw [HY.out]; rfl, below_drewN HB3.out _⟩
            · rw [a1] at HQ2 q0 x4
              go_wp2_with (first
                | (at_lookup; refine map_look (K := kI) (E := eI) rfl _ _ rfl Try.underlying155 rfl HM3.out l[k].r.cats rfl kok.out ?_; rw [HG1.out])
                | (at_lookup; refine map_look (K := kI) (E := eI) rfl _ _ rfl Try.underlying155 rfl HM2.out l[k].r.cats rfl kok.out ?_; rw [HG.out])
                | (at_mapUpdate; refine map_put (K := kI) (E := eI) rfl _ _ _ rfl Try.underlying155 rfl HM2.out (Nat.lt_of_le_of_lt (Nat.le_trans hk hlen) (by unfold maxLen; omega)) l[k].r.cats rfl kok.out _ (congrArg (Value.int .i64) HS.out) yok.out ?_
                   intro w3 hm3 hg3
                   rw [HP.out] at hm3
                   have HM3 := Aside.mk hm3
                   have q1 := (HQ2.out.grown hg3 (by simpa using HNE.out)).five
                   have HB3 := Aside.mk (HB2.out.grown hg3 HB2.out.size (fun j hj => by cases hj; exact Nat.le_refl _))
                   clear hm3 hg3))
              go_quiet ((go_at_call 108; exact Calls.quiet_of_same ((storeLives (some ad) k c (l.take k) l[k].r.id l[k].r.cats ok _ ((HR.out.below (below_drewN HB3.out _)).take k) HT.out).mono fun _ _ h => ⟨h.1.trans (by rw [a4]), h.2.symm⟩)))
              go_wp2
              have HY := Aside.mk (store_hit H5.out hlt HK.out (x := 3) (by decide) (by rw [HW.out, HX.out]; rfl))
              go_ret
              exact ⟨by rw [HY.out]; rfl, below_drewN HB3.out _⟩
            · rw [a1] at HQ2 q0 x4
              go_wp2_with (first
                | (at_lookup; refine map_look (K := kI) (E := eI) rfl _ _ rfl Try.underlying155 rfl HM3.out l[k].r.cats rfl kok.out ?_; rw [HG1.out])
                | (at_lookup; refine map_look (K := kI) (E := eI) rfl _ _ rfl Try.underlying155 rfl HM2.out l[k].r.cats rfl kok.out ?_; rw [HG.out])
                | (at_mapUpdate; refine map_put (K := kI) (E := eI) rfl _ _ _ rfl Try.underlying155 rfl HM2.out (Nat.lt_of_le_of_lt (Nat.le_trans hk hlen) (by unfold maxLen; omega)) l[k].r.cats rfl kok.out _ (congrArg (Value.int .i64) HS.out) yok.out ?_
                   intro w3 hm3 hg3
                   rw [HP.out] at hm3
                   have HM3 := Aside.mk hm3
                   have q1 := (HQ2.out.grown hg3 (by simpa using HNE.out)).five
                   have HB3 := Aside.mk (HB2.out.grown hg3 HB2.out.size (fun j hj => by cases hj; exact Nat.le_refl _))
                   clear hm3 hg3))
              go_quiet ((go_at_call 108; exact Calls.quiet_of_same ((storeLives (some ad) k c (l.take k) l[k].r.id l[k].r.cats ok _ ((HR.out.below (below_drewN HB3.out _)).take k) HT.out).mono fun _ _ h => ⟨h.1.trans (by rw [a4]), h.2.symm⟩)))
              go_wp2
              refine ⟨⟨k + 1, by omega, by go_num, ⟨firstI_step HK.out (by rw [HW.out, HX.out]; rfl)⟩, ⟨HM3.out.below (below_drewN (Below.refl _ _) _)⟩, ⟨below_drewN HB3.out _⟩⟩, by simp [intOf]; omega⟩
        · have HX := Aside.mk (store_hit H5.out hlt HK.out he (by rw [HV.out, if_pos he]))
          have hb0 : (recErr l[k].r != 0) = true := by simp [he]
          clear he
          go_wp2_with (go_at_call 98; refine (recCheck l[k].r A1 A2 c1 c2 _ _ _ R1.out R2.out).mono ?_; rintro e w2 ⟨rfl, hb⟩; have HB2 := Aside.mk (below_step HB1.out hb); clear hb)
          go_ret
          exact ⟨by rw [HX.out]; rfl, HB2.out⟩
      · obtain rfl : k = l.length := by omega
        have HX := Aside.mk (show storeErr l = 0 by rw [storeErr, if_neg H5.out, HK.out])
        go_wp2_with fail
        go_ret
        exact ⟨by rw [HX.out]; rfl, HB.out⟩
end Go.Proofs.WK
