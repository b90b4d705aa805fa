/-
  store.lives, store.many; wyref.Lives, wyref.Same.
  store.Check (P21).
  store.Copied: the same versions, in memory of the call's own.
  store.Put, store.Cut (P22, P23).
  store.Cut (P23).
-/
import Derived.Test.YtljjiicjnoljbaaGreatDoorDat
import Derived.Test.YtljjiicjnoljbaaGreatDoorWk0
import Derived.Test.YtljjiicjnoljbaaGreatDoorRec0
namespace Go.Proofs.WK
open Go.RowKit Rp
def livesB (l : List Ver) (id : ByteArray) (c : Int) : Bool := decide (0 ≤ livesI l id c)
theorem livesI_hit {l : List Ver} {id : ByteArray} {c : Int} {j : Nat} (hj : j < l.length) (h : livesK l id c l.length = livesK l id c (j + 1)) (hh : hitV l[j] id c = true) : livesB l id c = !l[j].gone := by
  unfold livesB livesI
  rw [h, livesK_step hj, if_pos hh]
  cases l[j].gone <;> simp
theorem hit_of {v : Ver} {id : ByteArray} {c : Int} (b1 : (v.r.id.toList == id.toList) = true) (b2 : (v.r.cats == c) = true) : hitV v id c = true := by
  unfold hitV
  rw [toList_beq] at b1
  simp at b1 b2
  simp [b1, b2]
theorem no_hit1 {v : Ver} {id : ByteArray} {c : Int} (b1 : (v.r.id.toList == id.toList) = false) : hitV v id c = false := by
  unfold hitV
  rw [toList_beq] at b1
  rw [b1]; rfl
theorem no_hit2 {v : Ver} {id : ByteArray} {c : Int} (b2 : (v.r.cats == c) = false) : hitV v id c = false := by
  unfold hitV
  simp at b2
  simp [b2]
/-- Three ways of a version, as the walk asks it. -/
theorem hit_ways (v : Ver) (id : ByteArray) (c : Int) : ((v.r.id.toList == id.toList) = false ∧ Aside (hitV v id c = false)) ∨ (((v.r.id.toList == id.toList) = true ∧ (v.r.cats == c) = false) ∧ Aside (hitV v id c = false)) ∨ (((v.r.id.toList == id.toList) = true ∧ (v.r.cats == c) = true) ∧ Aside (hitV v id c = true)) := by
  cases b1 : (v.r.id.toList == id.toList)
  · exact .inl ⟨rfl, ⟨no_hit1 b1⟩⟩
  · cases b2 : (v.r.cats == c)
    · exact .inr (.inl ⟨⟨rfl, rfl⟩, ⟨no_hit2 b2⟩⟩)
    · exact .inr (.inr ⟨⟨rfl, rfl⟩, ⟨hit_of b1 b2⟩⟩)
set_option maxHeartbeats 1600000 in
set_option maxRecDepth 100000 in
theorem storeLives (A : Option Addr) (n c : Nat) (l : List Ver) (id : ByteArray) (cats : Int) (ok : Nat → Prop) (w : World) (hr : verR.Row w ok A l) (hn : l.length = n) :
    Calls Tryz.prog 191 #[.slice A n c, .string id, .int .i64 cats] w fun e w' => e = .returned (.bool (livesB l id cats)) ∧ w = w' := by
  subst hn
  have hm := hr.1
  have HR := Aside.mk hr
  clear hr
  go_enter Tryz.func191, Tryz.ntmps191
  go_wp2_with fail
  go_loopw [7] (fun i wr => ∃ m : Nat, m ≤ l.length ∧ i = .int .i64 ((m : Int) - 1) ∧ Aside (livesK l id cats l.length = livesK l id cats m) ∧ w = wr) (fun i _ => (intOf i + 1).toNat)
  case atStart => exact ⟨l.length, Nat.le_refl _, rfl, ⟨rfl⟩, rfl⟩
  case round =>
    obtain ⟨m, hml, rfl, HK, rfl⟩ := hrel
    cases m with
    | zero =>
      have HX := Aside.mk (show livesB l id cats = false by unfold livesB livesI; rw [HK.out]; rfl)
      rw [show (((0 : Nat) : Int) - 1) = -1 from rfl]
      go_wp2_with fail
      go_ret
      exact ⟨by rw [HX.out]; rfl, rfl⟩
    | succ j =>
      rw [show (((j + 1 : Nat) : Int) - 1) = (j : Int) by omega]
      have hj : j < l.length := by omega
      have p0 : (0 : Int) ≤ (j : Int) := by omega
      have p1 : (j : Int) < (l.length : Int) := by omega
      obtain ⟨ad, A1, c1, A2, c2, rfl, hlt, x0, x1, x2, x3, x4, _, _, _, _⟩ := ver_at HR.out hj
      have HS := Aside.mk (livesK_step (id := id) (c := cats) hj)
      clear x2 x3
      rcases hit_ways l[j] id cats with ⟨b, HB⟩ | ⟨b, HB⟩ | ⟨b, HB⟩
      case inr.inr =>
        have HX := Aside.mk (livesI_hit hj HK.out HB.out)
        go_wp2_with fail
        go_ret
        exact ⟨by rw [HX.out]; rfl, rfl⟩
      all_goals
        have HX := Aside.mk (show livesK l id cats l.length = livesK l id cats j by rw [HK.out, HS.out, HB.out]; rfl)
        go_wp2_with fail
        refine ⟨⟨j, by omega, rfl, HX, trivial⟩, by simp [intOf]⟩
set_option maxHeartbeats 1600000 in
set_option maxRecDepth 100000 in
theorem storeMany (A : Option Addr) (n c : Nat) (l : List Ver) (cats : Int) (ok : Nat → Prop) (w : World) (hr : verR.Row w ok A l) (hn : l.length = n) :
    Calls Tryz.prog 129 #[.slice A n c, .int .i64 cats] w fun e w' => e = .returned (.int .i64 (sameN l cats)) ∧ Below w.heap.size w w' := by
  subst hn
  have hm := hr.1
  have HR := Aside.mk hr
  clear hr
  go_enter Tryz.func129, Tryz.ntmps129
  go_wp2_with fail
  go_loopw [5, 10] (fun x i wr => ∃ k : Nat, k ≤ l.length ∧ i = .int .i64 k ∧ x = .int .i64 (sameN (l.take k) cats) ∧ Aside (Below w.heap.size w wr)) (fun _ i _ => l.length - (intOf i).toNat)
  case atStart => exact ⟨0, Nat.zero_le _, rfl, rfl, ⟨Below.refl _ _⟩⟩
  case round =>
    obtain ⟨k, hk, rfl, rfl, HB⟩ := hrel
    by_cases hlt : k < l.length
    · obtain ⟨ad, A1, c1, A2, c2, rfl, _, x0, x1, x2, x3, x4, _, _, _, _⟩ := ver_at (HR.out.below HB.out) hlt
      have HS := Aside.mk (sameN_step hlt cats)
      have hle := sameN_le (l.take k) cats
      have hl2 := List.length_take_le k l
      have h0 : (0 : Int) ≤ (sameN (l.take k) cats : Int) := by omega
      have h1 : (sameN (l.take k) cats : Int) < 9223372036854775807 := by omega
      clear hle hl2
      have HB1 := Aside.mk (HB.out.alloc HB.out.size (.cells #[.string l[k].r.id, .int .i64 l[k].r.cats, .slice A1 l[k].r.fields.length c1, .slice A2 l[k].r.refs.length c2, .bool l[k].gone] 63))
      cases hc : (l[k].r.cats == cats) with
      | true =>
        have HX := Aside.mk (show sameN (l.take (k + 1)) cats = sameN (l.take k) cats + 1 by rw [HS.out, if_pos (by simpa using hc)])
        go_wp2_with fail
        refine ⟨⟨k + 1, by omega, by go_num, by rw [HX.out]; go_num, HB1⟩, by simp [intOf]; omega⟩
      | false =>
        have HX := Aside.mk (show sameN (l.take (k + 1)) cats = sameN (l.take k) cats by rw [HS.out, if_neg (by simpa using hc)]; rfl)
        go_wp2_with fail
        refine ⟨⟨k + 1, by omega, by go_num, by rw [HX.out], HB1⟩, by simp [intOf]; omega⟩
    · obtain rfl : k = l.length := by omega
      rw [List.take_length]
      go_wp2_with fail
      go_ret
      exact ⟨rfl, HB.out⟩
set_option maxHeartbeats 1600000 in
set_option maxRecDepth 100000 in
theorem refSame (A : Option Addr) (n c : Nat) (l : List Ver) (cats : Int) (ok : Nat → Prop) (w : World) (hr : verR.Row w ok A l) (hn : l.length = n) :
    Calls Tryz.prog 81 #[.slice A n c, .int .i64 cats] w fun e w' => e = .returned (.int .i64 (sameN l cats)) ∧ Below w.heap.size w w' := by
  subst hn
  have hm := hr.1
  have HR := Aside.mk hr
  clear hr
  go_enter Tryz.func81, Tryz.ntmps81
  go_wp2_with fail
  go_loopw [5, 10] (fun x i wr => ∃ k : Nat, k ≤ l.length ∧ i = .int .i64 k ∧ x = .int .i64 (sameN (l.take k) cats) ∧ Aside (Below w.heap.size w wr)) (fun _ i _ => l.length - (intOf i).toNat)
  case atStart => exact ⟨0, Nat.zero_le _, rfl, rfl, ⟨Below.refl _ _⟩⟩
  case round =>
    obtain ⟨k, hk, rfl, rfl, HB⟩ := hrel
    by_cases hlt : k < l.length
    · obtain ⟨ad, A1, c1, A2, c2, rfl, _, x0, x1, x2, x3, x4, _, _, _, _⟩ := ver_at (HR.out.below HB.out) hlt
      have HS := Aside.mk (sameN_step hlt cats)
      have hle := sameN_le (l.take k) cats
      have hl2 := List.length_take_le k l
      have h0 : (0 : Int) ≤ (sameN (l.take k) cats : Int) := by omega
      have h1 : (sameN (l.take k) cats : Int) < 9223372036854775807 := by omega
      clear hle hl2
      have HB1 := Aside.mk (HB.out.alloc HB.out.size (.cells #[.string l[k].r.id, .int .i64 l[k].r.cats, .slice A1 l[k].r.fields.length c1, .slice A2 l[k].r.refs.length c2, .bool l[k].gone] 63))
      cases hc : (l[k].r.cats == cats) with
      | true =>
        have HX := Aside.mk (show sameN (l.take (k + 1)) cats = sameN (l.take k) cats + 1 by rw [HS.out, if_pos (by simpa using hc)])
        go_wp2_with fail
        refine ⟨⟨k + 1, by omega, by go_num, by rw [HX.out]; go_num, HB1⟩, by simp [intOf]; omega⟩
      | false =>
        have HX := Aside.mk (show sameN (l.take (k + 1)) cats = sameN (l.take k) cats by rw [HS.out, if_neg (by simpa using hc)]; rfl)
        go_wp2_with fail
        refine ⟨⟨k + 1, by omega, by go_num, by rw [HX.out], HB1⟩, by simp [intOf]; omega⟩
    · obtain rfl : k = l.length := by omega
      rw [List.take_length]
      go_wp2_with fail
      go_ret
      exact ⟨rfl, HB.out⟩
set_option maxHeartbeats 1600000 in
set_option maxRecDepth 100000 in
theorem refLives (A : Option Addr) (n c : Nat) (l : List Ver) (id : ByteArray) (cats : Int) (ok : Nat → Prop) (w : World) (hr : verR.Row w ok A l) (hn : l.length = n) :
    Calls Tryz.prog 82 #[.slice A n c, .string id, .int .i64 cats] w fun e w' => e = .returned (.int .i64 (livesI l id cats)) ∧ Below w.heap.size w w' := by
  subst hn
  have hm := hr.1
  have HR := Aside.mk hr
  clear hr
  go_enter Tryz.func82, Tryz.ntmps82
  go_wp2_with fail
  go_loopw [7, 12] (fun x i wr => ∃ k : Nat, k ≤ l.length ∧ i = .int .i64 k ∧ x = .int .i64 (livesK l id cats k) ∧ Aside (Below w.heap.size w wr)) (fun _ i _ => l.length - (intOf i).toNat)
  case atStart => exact ⟨0, Nat.zero_le _, rfl, rfl, ⟨Below.refl _ _⟩⟩
  case round =>
    obtain ⟨k, hk, rfl, rfl, HB⟩ := hrel
    by_cases hlt : k < l.length
    · obtain ⟨ad, A1, c1, A2, c2, rfl, _, x0, x1, x2, x3, x4, _, _, _, _⟩ := ver_at (HR.out.below HB.out) hlt
      have HS := Aside.mk (livesK_step (id := id) (c := cats) hlt)
      have HB1 := Aside.mk (HB.out.alloc HB.out.size (.cells #[.string l[k].r.id, .int .i64 l[k].r.cats, .slice A1 l[k].r.fields.length c1, .slice A2 l[k].r.refs.length c2, .bool l[k].gone] 63))
      rcases hit_ways l[k] id cats with ⟨b, HX⟩ | ⟨b, HX⟩ | ⟨b, HX⟩
      case inr.inr =>
        cases hg : l[k].gone
        all_goals
          rw [hg] at HS x4
          rw [hg] at HB1
          have HY := Aside.mk (HS.out.trans (if_pos HX.out))
          go_wp2_with fail
          refine ⟨⟨k + 1, by omega, by go_num, by rw [HY.out]; rfl, HB1⟩, by simp [intOf]; omega⟩
      all_goals
        have HY := Aside.mk (HS.out.trans (if_neg (by rw [HX.out]; simp)))
        go_wp2_with fail
        refine ⟨⟨k + 1, by omega, by go_num, by rw [HY.out], HB1⟩, by simp [intOf]; omega⟩
    · obtain rfl : k = l.length := by omega
      go_wp2_with fail
      go_ret
      exact ⟨rfl, HB.out⟩
end Go.Proofs.WK
namespace Go.Proofs.WK
open Go.RowKit Rp
theorem Bk.grown {w w' : World} {n : Nat} {cs : List Value} {row : Option Nat} (h : Bk w n cs) (hg : w.grownBy w' row) (hne : some n ≠ row) : Bk w' n cs := by
  obtain ⟨t, h1⟩ := h
  exact ⟨t, (hg.block n (Array.getElem?_eq_some_iff.1 h1).1 hne).trans h1⟩
noncomputable def kI : KT Tryz.prog 3 Int := i64T Tryz.underlying3
theorem zeroInt (w : World) : (zeroValue 3).run Tryz.prog w = .ok (.int .i64 0) w := by kernel_rfl
noncomputable def eI : ET Tryz.prog 3 Int := i64E Tryz.underlying3 zeroInt
def cntF (l : List Ver) (k : Nat) (x : Int) : Option Int := if sameN (l.take k) x = 0 then none else some (sameN (l.take k) x)
theorem cnt_get (l : List Ver) (k : Nat) (x : Int) : (cntF l k x).getD eI.zero = (sameN (l.take k) x : Int) := by
  unfold cntF
  split
  · rename_i h; rw [h]; rfl
  · rfl
theorem cnt_put {l : List Ver} {k : Nat} (hk : k < l.length) : (fun z => if z = l[k].r.cats then some ((sameN (l.take (k + 1)) l[k].r.cats : Nat) : Int) else cntF l k z) = cntF l (k + 1) := by
  funext z
  unfold cntF
  by_cases h : z = l[k].r.cats
  · subst h
    have := sameN_step hk l[k].r.cats
    rw [if_pos rfl] at this
    rw [if_pos rfl, if_neg (by omega)]
  · have e : sameN (l.take (k + 1)) z = sameN (l.take k) z := by rw [sameN_step hk z, if_neg (fun e => h e.symm)]; rfl
    rw [if_neg h, e]
theorem cnt_zero (l : List Ver) : cntF l 0 = fun _ => none := by
  funext z
  rfl
theorem store_hit {l : List Ver} {k : Nat} (h5 : ¬ 5120 < l.length) (hk : k < l.length) (h : firstI (verErr l) k = 0) {x : Int} (hx : x ≠ 0) (hv : verErr l k = x) : storeErr l = x := by
  rw [storeErr, if_neg h5, firstI_hit hk h (by rw [hv]; exact hx), hv]
/-- Five ways of what is gone, as the code asks. -/
theorem gone_ways (l : List Ver) (v : Ver) (k : Nat) (hk : k ≤ l.length) :
    (v.gone = false ∧ Aside (goneBad l v k = false)) ∨ ((v.gone = true ∧ 0 < v.r.fields.length) ∧ Aside (goneBad l v k = true)) ∨ ((v.gone = true ∧ decide (0 < v.r.fields.length) = false ∧ 0 < v.r.refs.length) ∧ Aside (goneBad l v k = true)) ∨
    ((v.gone = true ∧ decide (0 < v.r.fields.length) = false ∧ decide (0 < v.r.refs.length) = false ∧ livesB (l.take k) v.r.id v.r.cats = false) ∧ Aside (goneBad l v k = true)) ∨
    ((v.gone = true ∧ decide (0 < v.r.fields.length) = false ∧ decide (0 < v.r.refs.length) = false ∧ livesB (l.take k) v.r.id v.r.cats = true) ∧ Aside (goneBad l v k = false)) := by
  have e : livesB (l.take k) v.r.id v.r.cats = !decide (livesK l v.r.id v.r.cats k < 0) := by
    unfold livesB
    rw [livesI_take hk]
    by_cases h : livesK l v.r.id v.r.cats k < 0
    · rw [decide_eq_true h, decide_eq_false (by omega)]; rfl
    · rw [decide_eq_false h, decide_eq_true (by omega)]; rfl
  unfold goneBad
  cases hg : v.gone
  · exact .inl ⟨rfl, ⟨rfl⟩⟩
  · by_cases h1 : 0 < v.r.fields.length
    · exact .inr (.inl ⟨⟨rfl, h1⟩, ⟨by rw [decide_eq_true h1]; rfl⟩⟩)
    · by_cases h2 : 0 < v.r.refs.length
      · exact .inr (.inr (.inl ⟨⟨rfl, decide_eq_false h1, h2⟩, ⟨by rw [decide_eq_true h2]; simp⟩⟩))
      · rw [decide_eq_false h1, decide_eq_false h2, e]
        cases decide (livesK l v.r.id v.r.cats k < 0)
        · exact .inr (.inr (.inr (.inr ⟨⟨rfl, rfl, rfl, rfl⟩, ⟨rfl⟩⟩)))
        · exact .inr (.inr (.inr (.inl ⟨⟨rfl, rfl, rfl, rfl⟩, ⟨rfl⟩⟩)))
set_option maxHeartbeats 4000000 in
set_option maxRecDepth 100000 in
theorem storeCheck (A : Option Addr) (c : Nat) (l : List Ver) (ok : Nat → Prop) (w : World) (hr : verR.Row w ok A l) (hc : l.length ≤ c) :
    Calls Tryz.prog 127 #[.slice A l.length c] w fun e w' => e = .returned (.int .i64 (storeErr l)) ∧ Below w.heap.size w w' := by
  have hm := hr.1
  have HR := Aside.mk hr
  clear hr
  have hmm := @run_makeMap Tryz.prog
  by_cases h5 : 5120 < l.length
  · have H := Aside.mk (show storeErr l = 2 from if_pos h5)
    have g5 : decide ((5120 : Int) < (l.length : Int)) = true := by simp; omega
    clear h5
    go_enter Tryz.func127, Tryz.ntmps127
    go_wp2_with fail
    go_ret
    exact ⟨by rw [H.out]; rfl, Below.refl _ _⟩
  · have H5 := Aside.mk h5
    have g5 : decide ((5120 : Int) < (l.length : Int)) = false := by simp; omega
    have hlen : l.length ≤ 5120 := by omega
    clear h5
    go_enter Tryz.func127, Tryz.ntmps127
    go_wp2_with fail
    go_loopw [13] (fun i wr => ∃ k : Nat, k ≤ l.length ∧ i = .int .i64 k ∧ Aside (firstI (verErr l) k = 0) ∧ Aside (MapIs kI eI wr w.heap.size k (cntF l k)) ∧ Aside (Below w.heap.size w wr)) (fun i _ => l.length - (intOf i).toNat)
    case atStart => exact ⟨0, Nat.zero_le _, rfl, ⟨rfl⟩, ⟨by rw [cnt_zero]; exact MapIs.made _ _ _⟩, ⟨(Below.refl _ _).alloc (Nat.le_refl _) _⟩⟩
    case round =>
      clear hmm
      obtain ⟨k, hk, rfl, HK, HM, HB⟩ := hrel
      by_cases hlt : k < l.length
      · obtain ⟨ad, A1, c1, A2, c2, rfl, _, x0, x1, x2, x3, x4, l1, l2, r1, r2⟩ := ver_at (HR.out.below HB.out) hlt
        have hal : Below wr.heap.size wr (wr.alloc (.cells #[.string l[k].r.id, .int .i64 l[k].r.cats, .slice A1 l[k].r.fields.length c1, .slice A2 l[k].r.refs.length c2, .bool l[k].gone] 63)) := (Below.refl _ _).alloc (Nat.le_refl _) _
        have HQ := Aside.mk (Bk.made wr [.string l[k].r.id, .int .i64 l[k].r.cats, .slice A1 l[k].r.fields.length c1, .slice A2 l[k].r.refs.length c2, .bool l[k].gone] 63)
        have HM1 := Aside.mk (HM.out.below hal)
        have HB1 := Aside.mk (below_step HB.out hal)
        have R1 := Aside.mk (r1.below hal)
        have R2 := Aside.mk (r2.below hal)
        have HV := Aside.mk (verErr_at hlt)
        have hsz1 := HM.out.lt
        clear hal r1 r2 HM
        by_cases he : recErr l[k].r = 0
        · have hrec := rec_ok he
          have HE := Aside.mk he
          have hc0 := hrec.2.1
          have hc1 := hrec.2.2.1
          clear hrec he
          have hS := sameN_step hlt l[k].r.cats
          rw [if_pos rfl] at hS
          have hs0 : sameN (l.take k) l[k].r.cats ≤ k := Nat.le_trans (sameN_le _ _) (List.length_take_le _ _)
          have hS1 : ((sameN (l.take k) l[k].r.cats : Nat) : Int) + 1 = ((sameN (l.take (k + 1)) l[k].r.cats : Nat) : Int) := by omega
          have HS := Aside.mk hS1
          have HP := Aside.mk (cnt_put hlt)
          have hg := cnt_get l k l[k].r.cats
          have HG := Aside.mk hg
          have HG1 := Aside.mk (cnt_get l (k + 1) l[k].r.cats)
          clear hS hS1 hg
          go_wp2_with fail
          refine (recCheck l[k].r A1 A2 c1 c2 _ _ _ R1.out R2.out).mono ?_
          rw [HE.out]
          rintro e w2 ⟨rfl, hb⟩
          have HM2 := Aside.mk (HM1.out.below hb)
          have HQ2 := Aside.mk (HQ.out.below hb)
          have HB2 := Aside.mk (below_step HB1.out hb)
          have HR2 := Aside.mk (HR.out.below HB2.out)
          clear hb HM1 HQ HB1 R1 R2
          have q0 := HQ2.out.five
          have hsz := HM2.out.lt
          have hgs := HB.out.size
          have kok := Aside.mk (i64_wf (x := l[k].r.cats) (by omega) (by omega))
          have hne : wr.heap.size ≠ w.heap.size := by
            have := HB.out.size
            have := hsz1
            omega
          have HNE := Aside.mk hne
          have yok := Aside.mk (i64_wf (x := ((sameN (l.take (k + 1)) l[k].r.cats : Nat) : Int)) (by omega) (by have := HS.out; omega))
          have h0 : (0 : Int) ≤ ((sameN (l.take k) l[k].r.cats : Nat) : Int) := by omega
          have h1 : ((sameN (l.take k) l[k].r.cats : Nat) : Int) < 9223372036854775807 := by omega
          have ek : ∀ z, kI.kv z = Value.int .i64 z := fun _ => rfl
          have ee : ∀ z, eI.ev z = Value.int .i64 z := fun _ => rfl
          clear hne hsz hsz1 hgs hs0 hc0 hc1
          rcases (by by_cases h : 20 < sameN (l.take (k + 1)) l[k].r.cats; exact .inl h; exact .inr h : 20 < sameN (l.take (k + 1)) l[k].r.cats ∨ ¬ 20 < sameN (l.take (k + 1)) l[k].r.cats) with h20 | h20
          · have HX := Aside.mk (store_hit H5.out hlt HK.out (x := 2) (by decide) (by rw [HV.out, if_neg (by simpa using HE.out), if_pos h20]))
            have g20 : decide ((20 : Int) < ((sameN (l.take (k + 1)) l[k].r.cats : Nat) : Int)) = true := by simp; omega
            clear h20
            go_wp2_with (first
              | (at_lookup; refine map_look (K := kI) (E := eI) rfl _ _ rfl Tryz.underlying254 rfl HM3.out l[k].r.cats rfl kok.out ?_; rw [HG1.out])
              | (at_lookup; refine map_look (K := kI) (E := eI) rfl _ _ rfl Tryz.underlying254 rfl HM2.out l[k].r.cats rfl kok.out ?_; rw [HG.out])
              | (at_mapUpdate; refine map_put (K := kI) (E := eI) rfl _ _ _ rfl Tryz.underlying254 rfl HM2.out (Nat.lt_of_le_of_lt (Nat.le_trans hk hlen) (by unfold maxLen; omega)) l[k].r.cats rfl kok.out _ (congrArg (Value.int .i64) HS.out) yok.out ?_
                 intro w3 hm3 hg3
                 rw [HP.out] at hm3
                 have HM3 := Aside.mk hm3
                 have q1 := (HQ2.out.grown hg3 (by simpa using HNE.out)).five
                 have HB3 := Aside.mk (HB2.out.grown hg3 HB2.out.size (fun j hj => by cases hj; exact Nat.le_refl _))
                 clear hm3 hg3))
            go_ret
            exact ⟨by rw [HX.out]; rfl, HB3.out⟩
          · have g20 : decide ((20 : Int) < ((sameN (l.take (k + 1)) l[k].r.cats : Nat) : Int)) = false := by simp; omega
            have hverr : verErr l k = if goneBad l l[k] k = true then 3 else 0 := by rw [HV.out, if_neg (by simpa using HE.out), if_neg h20]
            have HW := Aside.mk hverr
            have p0 : (0 : Int) ≤ (k : Int) := by omega
            have p1 : (k : Int) ≤ (c : Int) := by omega
            have htk : (l.take k).length = k := by simp; omega
            have HT := Aside.mk htk
            clear h20 hverr htk
            rcases gone_ways l l[k] k (Nat.le_of_lt hlt) with ⟨a1, HX⟩ | ⟨⟨a1, a2⟩, HX⟩ | ⟨⟨a1, a2, a3⟩, HX⟩ | ⟨⟨a1, a2, a3, a4⟩, HX⟩ | ⟨⟨a1, a2, a3, a4⟩, HX⟩
            · rw [a1] at HQ2 q0 x4
              go_wp2_with (first
                | (at_lookup; refine map_look (K := kI) (E := eI) rfl _ _ rfl Tryz.underlying254 rfl HM3.out l[k].r.cats rfl kok.out ?_; rw [HG1.out])
                | (at_lookup; refine map_look (K := kI) (E := eI) rfl _ _ rfl Tryz.underlying254 rfl HM2.out l[k].r.cats rfl kok.out ?_; rw [HG.out])
                | (at_mapUpdate; refine map_put (K := kI) (E := eI) rfl _ _ _ rfl Tryz.underlying254 rfl HM2.out (Nat.lt_of_le_of_lt (Nat.le_trans hk hlen) (by unfold maxLen; omega)) l[k].r.cats rfl kok.out _ (congrArg (Value.int .i64) HS.out) yok.out ?_
                   intro w3 hm3 hg3
                   rw [HP.out] at hm3
                   have HM3 := Aside.mk hm3
                   have q1 := (HQ2.out.grown hg3 (by simpa using HNE.out)).five
                   have HB3 := Aside.mk (HB2.out.grown hg3 HB2.out.size (fun j hj => by cases hj; exact Nat.le_refl _))
                   clear hm3 hg3))
              go_quiet ((go_at_call 191; exact Calls.quiet_of_same ((storeLives (some ad) k c (l.take k) l[k].r.id l[k].r.cats ok _ ((HR.out.below (below_drewN HB3.out _)).take k) HT.out).mono fun _ _ h => ⟨h.1.trans (by rw [a4]), h.2.symm⟩)))
              go_wp2
              refine ⟨⟨k + 1, by omega, by go_num, ⟨firstI_step HK.out (by rw [HW.out, HX.out]; rfl)⟩, ⟨HM3.out.below (below_drewN (Below.refl _ _) _)⟩, ⟨below_drewN HB3.out _⟩⟩, by simp [intOf]; omega⟩
            · rw [a1] at HQ2 q0 x4
              go_wp2_with (first
                | (at_lookup; refine map_look (K := kI) (E := eI) rfl _ _ rfl Tryz.underlying254 rfl HM3.out l[k].r.cats rfl kok.out ?_; rw [HG1.out])
                | (at_lookup; refine map_look (K := kI) (E := eI) rfl _ _ rfl Tryz.underlying254 rfl HM2.out l[k].r.cats rfl kok.out ?_; rw [HG.out])
                | (at_mapUpdate; refine map_put (K := kI) (E := eI) rfl _ _ _ rfl Tryz.underlying254 rfl HM2.out (Nat.lt_of_le_of_lt (Nat.le_trans hk hlen) (by unfold maxLen; omega)) l[k].r.cats rfl kok.out _ (congrArg (Value.int .i64) HS.out) yok.out ?_
                   intro w3 hm3 hg3
                   rw [HP.out] at hm3
                   have HM3 := Aside.mk hm3
                   have q1 := (HQ2.out.grown hg3 (by simpa using HNE.out)).five
                   have HB3 := Aside.mk (HB2.out.grown hg3 HB2.out.size (fun j hj => by cases hj; exact Nat.le_refl _))
                   clear hm3 hg3))
              go_quiet ((go_at_call 191; exact Calls.quiet_of_same ((storeLives (some ad) k c (l.take k) l[k].r.id l[k].r.cats ok _ ((HR.out.below (below_drewN HB3.out _)).take k) HT.out).mono fun _ _ h => ⟨h.1.trans (by rw [a4]), h.2.symm⟩)))
              go_wp2
              have HY := Aside.mk (store_hit H5.out hlt HK.out (x := 3) (by decide) (by rw [HW.out, HX.out]; rfl))
              go_ret
              exact ⟨by rw [HY.out]; rfl, below_drewN HB3.out _⟩
            · rw [a1] at HQ2 q0 x4
              go_wp2_with (first
                | (at_lookup; refine map_look (K := kI) (E := eI) rfl _ _ rfl Tryz.underlying254 rfl HM3.out l[k].r.cats rfl kok.out ?_; rw [HG1.out])
                | (at_lookup; refine map_look (K := kI) (E := eI) rfl _ _ rfl Tryz.underlying254 rfl HM2.out l[k].r.cats rfl kok.out ?_; rw [HG.out])
                | (at_mapUpdate; refine map_put (K := kI) (E := eI) rfl _ _ _ rfl Tryz.underlying254 rfl HM2.out (Nat.lt_of_le_of_lt (Nat.le_trans hk hlen) (by unfold maxLen; omega)) l[k].r.cats rfl kok.out _ (congrArg (Value.int .i64) HS.out) yok.out ?_
                   intro w3 hm3 hg3
                   rw [HP.out] at hm3
                   have HM3 := Aside.mk hm3
                   have q1 := (HQ2.out.grown hg3 (by simpa using HNE.out)).five
                   have HB3 := Aside.mk (HB2.out.grown hg3 HB2.out.size (fun j hj => by cases hj; exact Nat.le_refl _))
                   clear hm3 hg3))
              go_quiet ((go_at_call 191; exact Calls.quiet_of_same ((storeLives (some ad) k c (l.take k) l[k].r.id l[k].r.cats ok _ ((HR.out.below (below_drewN HB3.out _)).take k) HT.out).mono fun _ _ h => ⟨h.1.trans (by rw [a4]), h.2.symm⟩)))
              go_wp2
              have HY := Aside.mk (store_hit H5.out hlt HK.out (x := 3) (by decide) (by rw [HW.out, HX.out]; rfl))
              go_ret
              exact ⟨by rw [HY.out]; rfl, below_drewN HB3.out _⟩
            · rw [a1] at HQ2 q0 x4
              go_wp2_with (first
                | (at_lookup; refine map_look (K := kI) (E := eI) rfl _ _ rfl Tryz.underlying254 rfl HM3.out l[k].r.cats rfl kok.out ?_; rw [HG1.out])
                | (at_lookup; refine map_look (K := kI) (E := eI) rfl _ _ rfl Tryz.underlying254 rfl HM2.out l[k].r.cats rfl kok.out ?_; rw [HG.out])
                | (at_mapUpdate; refine map_put (K := kI) (E := eI) rfl _ _ _ rfl Tryz.underlying254 rfl HM2.out (Nat.lt_of_le_of_lt (Nat.le_trans hk hlen) (by unfold maxLen; omega)) l[k].r.cats rfl kok.out _ (congrArg (Value.int .i64) HS.out) yok.out ?_
                   intro w3 hm3 hg3
                   rw [HP.out] at hm3
                   have HM3 := Aside.mk hm3
                   have q1 := (HQ2.out.grown hg3 (by simpa using HNE.out)).five
                   have HB3 := Aside.mk (HB2.out.grown hg3 HB2.out.size (fun j hj => by cases hj; exact Nat.le_refl _))
                   clear hm3 hg3))
              go_quiet ((go_at_call 191; exact Calls.quiet_of_same ((storeLives (some ad) k c (l.take k) l[k].r.id l[k].r.cats ok _ ((HR.out.below (below_drewN HB3.out _)).take k) HT.out).mono fun _ _ h => ⟨h.1.trans (by rw [a4]), h.2.symm⟩)))
              go_wp2
              have HY := Aside.mk (store_hit H5.out hlt HK.out (x := 3) (by decide) (by rw [HW.out, HX.out]; rfl))
              go_ret
              exact ⟨by rw [HY.out]; rfl, below_drewN HB3.out _⟩
            · rw [a1] at HQ2 q0 x4
              go_wp2_with (first
                | (at_lookup; refine map_look (K := kI) (E := eI) rfl _ _ rfl Tryz.underlying254 rfl HM3.out l[k].r.cats rfl kok.out ?_; rw [HG1.out])
                | (at_lookup; refine map_look (K := kI) (E := eI) rfl _ _ rfl Tryz.underlying254 rfl HM2.out l[k].r.cats rfl kok.out ?_; rw [HG.out])
                | (at_mapUpdate; refine map_put (K := kI) (E := eI) rfl _ _ _ rfl Tryz.underlying254 rfl HM2.out (Nat.lt_of_le_of_lt (Nat.le_trans hk hlen) (by unfold maxLen; omega)) l[k].r.cats rfl kok.out _ (congrArg (Value.int .i64) HS.out) yok.out ?_
                   intro w3 hm3 hg3
                   rw [HP.out] at hm3
                   have HM3 := Aside.mk hm3
                   have q1 := (HQ2.out.grown hg3 (by simpa using HNE.out)).five
                   have HB3 := Aside.mk (HB2.out.grown hg3 HB2.out.size (fun j hj => by cases hj; exact Nat.le_refl _))
                   clear hm3 hg3))
              go_quiet ((go_at_call 191; exact Calls.quiet_of_same ((storeLives (some ad) k c (l.take k) l[k].r.id l[k].r.cats ok _ ((HR.out.below (below_drewN HB3.out _)).take k) HT.out).mono fun _ _ h => ⟨h.1.trans (by rw [a4]), h.2.symm⟩)))
              go_wp2
              refine ⟨⟨k + 1, by omega, by go_num, ⟨firstI_step HK.out (by rw [HW.out, HX.out]; rfl)⟩, ⟨HM3.out.below (below_drewN (Below.refl _ _) _)⟩, ⟨below_drewN HB3.out _⟩⟩, by simp [intOf]; omega⟩
        · have HX := Aside.mk (store_hit H5.out hlt HK.out he (by rw [HV.out, if_pos he]))
          have hb0 : (recErr l[k].r != 0) = true := by simp [he]
          clear he
          go_wp2_with (go_at_call 128; refine (recCheck l[k].r A1 A2 c1 c2 _ _ _ R1.out R2.out).mono ?_; rintro e w2 ⟨rfl, hb⟩; have HB2 := Aside.mk (below_step HB1.out hb); clear hb)
          go_ret
          exact ⟨by rw [HX.out]; rfl, HB2.out⟩
      · obtain rfl : k = l.length := by omega
        have HX := Aside.mk (show storeErr l = 0 by rw [storeErr, if_neg H5.out, HK.out])
        go_wp2_with fail
        go_ret
        exact ⟨by rw [HX.out]; rfl, HB.out⟩
end Go.Proofs.WK
namespace Go.Proofs.WK
open Go.RowKit Rp
abbrev Kv (w : World) (g : Nat) (a b c d e : Value) : Prop :=
  w.cell? { block := g, off := 0 } = some a ∧ w.cell? { block := g, off := 1 } = some b ∧ w.cell? { block := g, off := 2 } = some c ∧ w.cell? { block := g, off := 3 } = some d ∧ w.cell? { block := g, off := 4 } = some e ∧ Aside (Bk w g [a, b, c, d, e])
theorem Kv.of {w : World} {g : Nat} {a b c d e : Value} (h : Bk w g [a, b, c, d, e]) : Kv w g a b c d e := ⟨h.cell 0, h.cell 1, h.cell 2, h.cell 3, h.cell 4, ⟨h⟩⟩
theorem Kv.bk {w : World} {g : Nat} {a b c d e : Value} (h : Kv w g a b c d e) : Bk w g [a, b, c, d, e] := h.2.2.2.2.2.out
theorem Kv.step {w w' : World} {g : Nat} {a b c d e : Value} (h : Kv w g a b c d e) (hb : Below w.heap.size w w') : Kv w' g a b c d e := .of (h.bk.below hb)
theorem Kv.al {w : World} {g : Nat} {a b c d e : Value} (h : Kv w g a b c d e) (o : Obj) : Kv (w.alloc o) g a b c d e := h.step ((Below.refl _ _).alloc (Nat.le_refl _) _)
theorem Kv.grown {w w' : World} {g : Nat} {a b c d e : Value} {row : Option Nat} (h : Kv w g a b c d e) (hg : w.grownBy w' row) (hne : some g ≠ row) : Kv w' g a b c d e := .of (h.bk.grown hg hne)
theorem Sl.form {α : Type} {d : Rp α} {w : World} {ok : Nat → Prop} {v : Value} {xs : List α} (h : d.Sl w ok v xs) : ∃ A c, v = .slice A xs.length c := by obtain ⟨A, c, rfl, _⟩ := h; exact ⟨A, c, rfl⟩
set_option maxHeartbeats 4000000 in
set_option maxRecDepth 100000 in
theorem storeCopied (A : Option Addr) (n c : Nat) (l : List Ver) (ok : Nat → Prop) (w : World) (hr : verR.Row w ok A l) (hn : l.length = n) (hlen : l.length ≤ 6000) (hok : ∀ v ∈ l, v.r.fields.length ≤ 6 ∧ v.r.refs.length ≤ 4) :
    Calls Tryz.prog 64 #[.slice A n c] w fun e w' => ∃ v, e = .returned v ∧ verR.Own 63 w' w.heap.size (fun k => w.heap.size ≤ k) v l ∧ Below w.heap.size w w' := by
  subst hn
  have HR := Aside.mk hr
  have HK := Aside.mk hok
  clear hr hok
  go_enter Tryz.func64, Tryz.ntmps64
  go_wp2_with fail
  go_loopw [3, 8] (fun x i wr => ∃ k : Nat, k ≤ l.length ∧ i = .int .i64 k ∧ Aside (verR.Own 63 wr w.heap.size (fun k => w.heap.size ≤ k) x (l.take k)) ∧ Aside (Below w.heap.size w wr)) (fun _ i _ => l.length - (intOf i).toNat)
  case atStart => exact ⟨0, Nat.zero_le _, rfl, ⟨Own.nil _ _ _ _ _⟩, ⟨Below.refl _ _⟩⟩
  case round =>
    obtain ⟨k, hk, rfl, HO, HB⟩ := hrel
    by_cases hlt : k < l.length
    · obtain ⟨ad, A1, c1, A2, c2, rfl, _, x0, x1, x2, x3, x4, _, _, r1, r2⟩ := ver_at (HR.out.below HB.out) hlt
      have hal : Below wr.heap.size wr (wr.alloc (.cells #[.string l[k].r.id, .int .i64 l[k].r.cats, .slice A1 l[k].r.fields.length c1, .slice A2 l[k].r.refs.length c2, .bool l[k].gone] 63)) := (Below.refl _ _).alloc (Nat.le_refl _) _
      have HQ := Aside.mk (Kv.of (Bk.made wr [.string l[k].r.id, .int .i64 l[k].r.cats, .slice A1 l[k].r.fields.length c1, .slice A2 l[k].r.refs.length c2, .bool l[k].gone] 63))
      have HO1 := Aside.mk (HO.out.below hal)
      have HB1 := Aside.mk (below_step HB.out hal)
      have R1 := Aside.mk (r1.below hal)
      have R2 := Aside.mk (r2.below hal)
      obtain ⟨m1, m2⟩ := HK.out l[k] (List.getElem_mem hlt)
      have HT := Aside.mk (show l.take (k + 1) = l.take k ++ [l[k]] from List.take_succ_eq_append_getElem hlt)
      clear hal r1 r2
      go_wp2_with fail
      generalize hW : wr.alloc (.cells #[.string l[k].r.id, .int .i64 l[k].r.cats, .slice A1 l[k].r.fields.length c1, .slice A2 l[k].r.refs.length c2, .bool l[k].gone] 63) = w0 at HQ HO1 HB1 R1 R2 ⊢
      have hgne : Aside (some wr.heap.size ≠ u3.ownBlock) := ⟨fun e => by have := (HO.out.lt _ e.symm).2; omega⟩
      clear hW HO HB
      generalize hG : wr.heap.size = g at HQ hgne ⊢
      clear hG
      have q0 := HQ.out
      have HF : Aside (∀ k : Nat, w0.heap.size ≤ k → ∀ N, k < N → w.heap.size ≤ k ∧ some k ≠ u3.ownBlock) := ⟨fun k hk _ _ => ⟨Nat.le_trans HB1.out.size hk, fun e => by have := (HO1.out.lt _ e.symm).2; omega⟩⟩
      have HL : Aside (((l.take k).length + 1) * 80 ≤ 140737488355328) := ⟨by rw [List.length_take]; omega⟩
      go_region_held3 (fun w' => w'.cell? { block := g, off := 0 } = some (.string l[k].r.id) ∧ w'.cell? { block := g, off := 1 } = some (.int .i64 l[k].r.cats) ∧ w'.cell? { block := g, off := 2 } = some (.slice A1 l[k].r.fields.length c1) ∧
          w'.cell? { block := g, off := 3 } = some (.slice A2 l[k].r.refs.length c2) ∧ w'.cell? { block := g, off := 4 } = some (.bool l[k].gone) ∧ Aside (Bk w' g [.string l[k].r.id, .int .i64 l[k].r.cats, .slice A1 l[k].r.fields.length c1, .slice A2 l[k].r.refs.length c2, .bool l[k].gone]))
        (first | exact HQ.out | assumption | exact Kv.al (by assumption) _)
        (first
         | (go_at_call 145; refine (recCopied l[k].r A1 A2 c1 c2 ok ok _ (R1.out.below (below_drewN (Below.refl _ _) 1)) (R2.out.below (below_drewN (Below.refl _ _) 1)) m1 m2).mono ?_; rintro e w2 ⟨v1, v2, rfl, s1, s2, hb⟩
            obtain ⟨A3, c3, rfl⟩ := Sl.form s1; obtain ⟨A4, c4, rfl⟩ := Sl.form s2
            have hb2 := below_step (below_drewN (Below.refl _ _) 1) hb
            have hx := Kv.step HQ.out hb2
            have HO2 := Aside.mk (HO1.out.below hb2)
            have HB2 := Aside.mk (below_step HB1.out hb2)
            have HP : Aside (∀ o : Obj, verR.K (w2.alloc o) (fun k => w.heap.size ≤ k ∧ some k ≠ u3.ownBlock) l[k] [.string l[k].r.id, .int .i64 l[k].r.cats, .slice A3 l[k].r.fields.length c3, .slice A4 l[k].r.refs.length c4, .bool l[k].gone]) :=
              ⟨fun o => verK.2 ⟨_, _, rfl, (s1.mono fun k hk _ => HF.out k hk (k + 1) (Nat.lt_succ_self k)).below ((Below.refl _ _).alloc (Nat.le_refl _) _), (s2.mono fun k hk _ => HF.out k hk (k + 1) (Nat.lt_succ_self k)).below ((Below.refl _ _).alloc (Nat.le_refl _) _)⟩⟩
            clear hb hb2 s1 s2)
         | ((refine step_one (w0 := w) verR w.heap.size (by rfl) (.tmp 12) (.tmp 19) 42 63 _ 80 (by rfl) Tryz.underlying42 infoV (by rfl) (by decide) (by decide) u3 (l.take k) l[k] [.string l[k].r.id, .int .i64 l[k].r.cats, .slice A3 l[k].r.fields.length c3, .slice A4 l[k].r.refs.length c4, .bool l[k].gone] (fun k => w.heap.size ≤ k) w2.heap.size 1 (by rfl) (by rfl) (blk_new w2 _ _) (HP.out _) (HO2.out.below ((Below.refl _ _).alloc (Nat.le_refl _) _)) (HB2.out.alloc HB2.out.size _) (Nat.le_trans HB2.out.size (by simp)) HL.out ?_); intro v1 w3 HO3 HB3 hg3 hat3; have hy := Kv.grown (Kv.al hx _) hg3 hgne.out))
      go_wp2
      refine ⟨⟨k + 1, by omega, by go_num, ⟨by rw [HT.out]; exact HO3⟩, ⟨HB3⟩⟩, by simp [intOf]; omega⟩
    · obtain rfl : k = l.length := by omega
      rw [List.take_length] at HO
      go_wp2_with fail
      go_ret
      exact ⟨_, rfl, HO.out, HB.out⟩
end Go.Proofs.WK
namespace Go.Proofs.WK
open Go.RowKit Rp
abbrev Kr (w : World) (g : Nat) (a b c d : Value) : Prop :=
  w.cell? { block := g, off := 0 } = some a ∧ w.cell? { block := g, off := 1 } = some b ∧ w.cell? { block := g, off := 2 } = some c ∧ w.cell? { block := g, off := 3 } = some d ∧ Aside (Bk w g [a, b, c, d])
theorem Kr.of {w : World} {g : Nat} {a b c d : Value} (h : Bk w g [a, b, c, d]) : Kr w g a b c d := ⟨h.cell 0, h.cell 1, h.cell 2, h.cell 3, ⟨h⟩⟩
theorem Kr.bk {w : World} {g : Nat} {a b c d : Value} (h : Kr w g a b c d) : Bk w g [a, b, c, d] := h.2.2.2.2.out
theorem Kr.step {w w' : World} {g : Nat} {a b c d : Value} (h : Kr w g a b c d) (hb : Below w.heap.size w w') : Kr w' g a b c d := .of (h.bk.below hb)
theorem Kr.al {w : World} {g : Nat} {a b c d : Value} (h : Kr w g a b c d) (o : Obj) : Kr (w.alloc o) g a b c d := h.step ((Below.refl _ _).alloc (Nat.le_refl _) _)
theorem Kr.grown {w w' : World} {g : Nat} {a b c d : Value} {row : Option Nat} (h : Kr w g a b c d) (hg : w.grownBy w' row) (hne : some g ≠ row) : Kr w' g a b c d := .of (h.bk.grown hg hne)
theorem Sl.of {α : Type} {d : Rp α} {w : World} {ok : Nat → Prop} {A : Option Addr} {c : Nat} {xs : List α} (h : d.Row w ok A xs) (hc : xs.length ≤ c) : d.Sl w ok (.slice A xs.length c) xs := ⟨A, c, rfl, hc, h⟩
theorem put_small {l : List Ver} {x : Ver} (h : storeErr l = 0) (hx : x.r.fields.length ≤ 6 ∧ x.r.refs.length ≤ 4) : (l ++ [x]).length ≤ 6000 ∧ ∀ v ∈ l ++ [x], v.r.fields.length ≤ 6 ∧ v.r.refs.length ≤ 4 := by
  refine ⟨by have := (store_ok h).1; simp; omega, fun v hv => ?_⟩
  rcases List.mem_append.1 hv with h1 | h1
  · have := rec_ok (store_rec h v h1)
    exact ⟨this.2.2.2.1, this.2.2.2.2.1⟩
  · rw [List.mem_singleton.1 h1]; exact hx
/-- Behind the clone: the row is the call's own, and the version to come can be laid beside it. -/
theorem mid_of {w3 w4 : World} {e n B N : Nat} {v4 : Value} {l : List Ver} {x : Ver} {cl : List Value} {ok : Nat → Prop} (hb : Below w3.heap.size w3 w4) (hB : w3.heap.size ≤ B) (ho : verR.Own e w4 B ok v4 l) (hp : verR.K w3 (fun k => k < n) x cl) (hN : N < w3.heap.size) (_hn : n ≤ w3.heap.size) :
    verR.Own e w4 w3.heap.size (fun _ => True) v4 l ∧ (∀ W, Below w4.heap.size w4 W → verR.K W (fun k => True ∧ some k ≠ v4.ownBlock) x cl) ∧ some N ≠ v4.ownBlock ∧ w3.heap.size ≤ w4.heap.size := by
  refine ⟨?_, fun W hW => ?_, fun h => by have := (ho.lt _ h.symm).1; omega, hb.size⟩
  · obtain ⟨inner, h1, h2⟩ := ho.mono (ok' := fun _ => True) fun _ _ _ => trivial
    refine ⟨inner, ⟨h1.1, ?_⟩, h2⟩
    rcases h1.2 with h | ⟨g, cap, cur, a, b, r⟩
    · exact .inl h
    · exact .inr ⟨g, cap, cur, a, Nat.le_trans hB b, r⟩
  · refine verR.move (w := w4) (fun k _ hk => hW.block k hk) ?_
    refine verR.move (w := w3) (fun k _ hk => hb.block k hk) ?_
    exact verR.mono (fun k hk _ => ⟨trivial, fun h => by have := (ho.lt _ h.symm).1; omega⟩) hp
set_option maxHeartbeats 4000000 in
set_option maxRecDepth 100000 in
theorem storePut (A : Option Addr) (c : Nat) (l : List Ver) (r : Rec) (A1 A2 : Option Addr) (c1 c2 : Nat) (ok ok1 ok2 : Nat → Prop) (w : World) (hr : verR.Row w ok A l) (hc : l.length ≤ c)
    (hf : fldR.Row w ok1 A1 r.fields) (hc1 : r.fields.length ≤ c1) (hg : str.Row w ok2 A2 r.refs) (hc2 : r.refs.length ≤ c2) :
    Calls Tryz.prog 48 #[.slice A l.length c, .agg #[.string r.id, .int .i64 r.cats, .slice A1 r.fields.length c1, .slice A2 r.refs.length c2]] w fun e w' => ∃ v, e = .returned (.tuple #[v, .int .i64 (putErr l r)]) ∧
      verR.Sl w' (fun k => w.heap.size ≤ k) v (putV l r) ∧ Below w.heap.size w w' := by
  have hb1 : Below w.heap.size w (w.alloc (.cells (recC r A1 A2 c1 c2).toArray 36)) := (Below.refl _ _).alloc (Nat.le_refl _) _
  have HR := Aside.mk (hr.below hb1)
  have HF := Aside.mk ((hf.mono (ok' := fun k => k < w.heap.size) fun _ _ h => h).below hb1)
  have HG := Aside.mk ((hg.mono (ok' := fun k => k < w.heap.size) fun _ _ h => h).below hb1)
  have HQ := Aside.mk (Bk.made w (recC r A1 A2 c1 c2) 36)
  have HB := Aside.mk hb1
  clear hr hf hg hb1
  by_cases h1 : storeErr l = 0
  · have e1 : putErr l r = if recErr r ≠ 0 then recErr r else if 20 ≤ sameN l r.cats then 2 else 0 := by rw [putErr, if_neg (by simpa using h1)]
    have H1 := Aside.mk h1
    by_cases h2 : recErr r = 0
    · have e2 : putErr l r = if 20 ≤ sameN l r.cats then 2 else 0 := by rw [e1, if_neg (by simpa using h2)]
      have H2 := Aside.mk h2
      have hs := store_same h1 r.cats
      clear e1 h1 h2
      by_cases h3 : 20 ≤ sameN l r.cats
      · have e3 : putErr l r = 2 := by rw [e2, if_pos h3]
        have e4 : putV l r = [] := by rw [putV, e3]; rfl
        have g3 : (((sameN l r.cats : Nat) : Int) == 20) = true := by simp; omega
        rw [e3, e4]
        clear e2 e3 e4 h3 hs
        go_enter Tryz.func48, Tryz.ntmps48
        go_wp2_with fail
        refine (storeCheck _ c l _ _ HR.out hc).mono ?_
        rw [H1.out]
        rintro e w1 ⟨rfl, hb⟩
        have q1 := (HQ.out.below hb).four
        have HF1 := Aside.mk (HF.out.below hb)
        have HG1 := Aside.mk (HG.out.below hb)
        have HQ1 := Aside.mk (HQ.out.below hb)
        have HR1 := Aside.mk (HR.out.below hb)
        have HB1 := Aside.mk (below_step HB.out hb)
        clear HR HF HG HQ HB hb
        go_wp2_with fail
        refine (recCheck r _ _ _ _ _ _ _ HF1.out HG1.out).mono ?_
        rw [H2.out]
        rintro e w2 ⟨rfl, hb⟩
        clear q1
        have q1 := (HQ1.out.below hb).four
        have HR2 := Aside.mk (HR1.out.below hb)
        have HB2 := Aside.mk (below_step HB1.out hb)
        clear hb
        go_wp2_with fail
        refine (storeMany _ _ _ l r.cats _ _ HR2.out rfl).mono ?_
        rintro e w3 ⟨rfl, hb⟩
        have HB3 := Aside.mk (below_step HB2.out hb)
        clear hb
        go_wp2_with fail
        go_ret2
        exact ⟨_, rfl, Sl.nil _ _ _, HB3.out⟩
      · have e3 : putErr l r = 0 := by rw [e2, if_neg h3]
        have e4 : putV l r = l ++ [⟨r, false⟩] := by rw [putV, if_pos e3]
        have g3 : (((sameN l r.cats : Nat) : Int) == 20) = false := by simp; omega
        have hsm := put_small (x := ⟨r, false⟩) H1.out ⟨(rec_ok H2.out).2.2.2.1, (rec_ok H2.out).2.2.2.2.1⟩
        have HSM := Aside.mk hsm
        have HL := Aside.mk (show l.length * 80 ≤ 140737488355328 ∧ (l.length + 1) * 80 ≤ 140737488355328 by have := (store_ok H1.out).1; omega)
        rw [e3, e4]
        clear e2 e3 e4 h3 hs hsm
        go_enter Tryz.func48, Tryz.ntmps48
        go_wp2_with fail
        refine (storeCheck _ c l _ _ HR.out hc).mono ?_
        rw [H1.out]
        rintro e w1 ⟨rfl, hb⟩
        have q1 := (HQ.out.below hb).four
        have HF1 := Aside.mk (HF.out.below hb)
        have HG1 := Aside.mk (HG.out.below hb)
        have HQ1 := Aside.mk (HQ.out.below hb)
        have HR1 := Aside.mk (HR.out.below hb)
        have HB1 := Aside.mk (below_step HB.out hb)
        clear HR HF HG HQ HB hb
        go_wp2_with fail
        refine (recCheck r _ _ _ _ _ _ _ HF1.out HG1.out).mono ?_
        rw [H2.out]
        rintro e w2 ⟨rfl, hb⟩
        clear q1
        have q1 := (HQ1.out.below hb).four
        have HF2 := Aside.mk (HF1.out.below hb)
        have HG2 := Aside.mk (HG1.out.below hb)
        have HQ2 := Aside.mk (HQ1.out.below hb)
        have HR2 := Aside.mk (HR1.out.below hb)
        have HB2 := Aside.mk (below_step HB1.out hb)
        clear HR1 HF1 HG1 HQ1 HB1 hb
        go_wp2_with fail
        refine (storeMany _ _ _ l r.cats _ _ HR2.out rfl).mono ?_
        rintro e w3 ⟨rfl, hb⟩
        clear q1
        have HF3 := Aside.mk (HF2.out.below hb)
        have HG3 := Aside.mk (HG2.out.below hb)
        have HQ3 := Aside.mk (Kr.of (HQ2.out.below hb))
        have HR3 := Aside.mk (HR2.out.below hb)
        have HB3 := Aside.mk (below_step HB2.out hb)
        clear HR2 HF2 HG2 HQ2 HB2 hb
        go_wp2_with fail
        have q0 := HQ3.out
        have HW : Aside (∀ k N, k < w.heap.size → N = w3.heap.size → k < N) := ⟨fun k N h e => by have := HB3.out.size; omega⟩
        go_region_held3 (fun w' => w'.cell? { block := w.heap.size, off := 0 } = some (.string r.id) ∧ w'.cell? { block := w.heap.size, off := 1 } = some (.int .i64 r.cats) ∧ w'.cell? { block := w.heap.size, off := 2 } = some (.slice A1 r.fields.length c1) ∧
            w'.cell? { block := w.heap.size, off := 3 } = some (.slice A2 r.refs.length c2) ∧ Aside (Bk w' w.heap.size [.string r.id, .int .i64 r.cats, .slice A1 r.fields.length c1, .slice A2 r.refs.length c2]))
          (first | exact HQ3.out | assumption | exact Kr.al (by assumption) _)
          (first
           | (go_at_call 130; refine (cloneV A c l ok _ (HR3.out.below (by first | exact below_drewN (Below.refl _ _) 1 | exact (below_drewN (Below.refl _ _) 1).alloc (Nat.le_refl _) _)) HL.out.1).mono ?_; rintro e w4 ⟨v4, rfl, ho, hb⟩
              have hb4 : Below w3.heap.size w3 w4 := below_step (by first | exact below_drewN (Below.refl _ _) 1 | exact (below_drewN (Below.refl _ _) 1).alloc (Nat.le_refl _) _) hb
              have hx := Kr.step HQ3.out hb4
              have HM := Aside.mk (mid_of (x := ⟨r, false⟩) (cl := [.string r.id, .int .i64 r.cats, .slice A1 r.fields.length c1, .slice A2 r.refs.length c2, .bool false]) hb4 (by first | exact Nat.le_refl _ | simp) ho
                (verK.2 ⟨_, _, rfl, Sl.of HF3.out hc1, Sl.of HG3.out hc2⟩) HQ3.out.bk.lt (Nat.le_of_lt HQ3.out.bk.lt))
              have HBK := Aside.mk hb
              have HB4 := Aside.mk (below_step HB3.out hb4)
              clear hb hb4 ho)
           | ((refine step_one (w0 := w4) verR w3.heap.size (by rfl) (.tmp 24) (.tmp 27) 42 63 _ 80 (by rfl) Tryz.underlying42 infoV (by rfl) (by decide) (by decide) v4 l ⟨r, false⟩ [.string r.id, .int .i64 r.cats, .slice A1 r.fields.length c1, .slice A2 r.refs.length c2, .bool false] (fun _ => True) w4.heap.size 1 (by rfl) (by rfl) (blk_new w4 _ _) (HM.out.2.1 _ ((Below.refl _ _).alloc (Nat.le_refl _) _)) (HM.out.1.below ((Below.refl _ _).alloc (Nat.le_refl _) _)) ((Below.refl _ _).alloc HM.out.2.2.2 _) (Nat.le_trans HM.out.2.2.2 (by simp)) HL.out.2 ?_); intro v5 w5 HO5 HB5 hg5 hat5; have hy := Kr.grown (Kr.al hx _) hg5 HM.out.2.2.1; have HO5' := Aside.mk HO5; have HB5' := Aside.mk (HB4.out.grown (World.grownBy.trans (World.grownBy_alloc w4 _ _) hg5) HB4.out.size (fun k hk => Nat.le_trans HB3.out.size (HM.out.1.lt k hk).1)); obtain ⟨A5, c5, rfl⟩ := Sl.form HO5.sl; clear HO5 HB5 hg5 hat5)
           | ((refine step_one (w0 := w4) verR w3.heap.size (by rfl) (.tmp 24) (.tmp 27) 42 63 _ 80 (by rfl) Tryz.underlying42 infoV (by rfl) (by decide) (by decide) v4 l ⟨r, false⟩ [.string r.id, .int .i64 r.cats, .slice A1 r.fields.length c1, .slice A2 r.refs.length c2, .bool false] (fun _ => True) w3.heap.size 1 (by rfl) (by rfl) ⟨_, _, (HBK.out.block w3.heap.size (by simp)).trans (heap_alloc_new (w3.drewN 1) _)⟩ (HM.out.2.1 _ (Below.refl _ _)) HM.out.1 (Below.refl _ _) HM.out.2.2.2 HL.out.2 ?_); intro v5 w5 HO5 HB5 hg5 hat5; have hy := Kr.grown hx hg5 HM.out.2.2.1; have HO5' := Aside.mk HO5; have HB5' := Aside.mk (HB4.out.grown hg5 HB4.out.size (fun k hk => Nat.le_trans HB3.out.size (HM.out.1.lt k hk).1)); obtain ⟨A5, c5, rfl⟩ := Sl.form HO5.sl; clear HO5 HB5 hg5 hat5)
           | (go_at_call 64; refine (storeCopied A5 _ c5 (l ++ [⟨r, false⟩]) _ _ HO5'.out.row.2.2 (by simp) HSM.out.1 HSM.out.2).mono ?_; rintro e w6 ⟨v6, rfl, ho, hb⟩
              have hz := Kr.step hy hb
              have HO6 := Aside.mk (And.intro ho hb)
              clear ho hb))
        all_goals
          go_wp2
          go_ret2
          exact ⟨_, rfl, (Own.sl_new HO6.out.1).mono fun k hk _ => Nat.le_trans HB5'.out.size hk, below_step HB5'.out HO6.out.2⟩
    · have e3 : putErr l r = recErr r := by rw [e1, if_pos h2]
      have e4 : putV l r = [] := by rw [putV, e3, if_neg h2]
      have g3 : (recErr r != 0) = true := by simp [h2]
      rw [e3, e4]
      clear e1 e3 e4 h1 h2
      go_enter Tryz.func48, Tryz.ntmps48
      go_wp2_with fail
      refine (storeCheck _ c l _ _ HR.out hc).mono ?_
      rw [H1.out]
      rintro e w1 ⟨rfl, hb⟩
      have q1 := (HQ.out.below hb).four
      have HF1 := Aside.mk (HF.out.below hb)
      have HG1 := Aside.mk (HG.out.below hb)
      have HB1 := Aside.mk (below_step HB.out hb)
      clear HR HF HG HQ HB hb
      go_wp2_with fail
      refine (recCheck r _ _ _ _ _ _ _ HF1.out HG1.out).mono ?_
      rintro e w2 ⟨rfl, hb⟩
      have HB2 := Aside.mk (below_step HB1.out hb)
      clear hb
      go_wp2_with fail
      go_ret2
      exact ⟨_, rfl, Sl.nil _ _ _, HB2.out⟩
  · have e3 : putErr l r = storeErr l := by rw [putErr, if_pos h1]
    have e4 : putV l r = [] := by rw [putV, e3, if_neg h1]
    have g3 : (storeErr l != 0) = true := by simp [h1]
    rw [e3, e4]
    clear e3 e4 h1
    go_enter Tryz.func48, Tryz.ntmps48
    go_wp2_with fail
    refine (storeCheck _ c l _ _ HR.out hc).mono ?_
    rintro e w1 ⟨rfl, hb⟩
    have HB1 := Aside.mk (below_step HB.out hb)
    clear HR HF HG HQ HB hb
    go_wp2_with fail
    go_ret2
    exact ⟨_, rfl, Sl.nil _ _ _, HB1.out⟩
end Go.Proofs.WK
namespace Go.Proofs.WK
open Go.RowKit Rp
/-- Five ways of what is taken away. -/
theorem cut_ways (l : List Ver) (id : ByteArray) (c : Int) (h1 : storeErr l = 0) :
    (idOk id = false ∧ Aside (cutErr l id c = 3 ∧ cutV l id c = [])) ∨ ((idOk id = true ∧ decide (0 ≤ c ∧ c ≤ 255) = false) ∧ Aside (cutErr l id c = 1 ∧ cutV l id c = [])) ∨
    ((idOk id = true ∧ decide (0 ≤ c ∧ c ≤ 255) = true ∧ livesB l id c = false) ∧ Aside (cutErr l id c = 4 ∧ cutV l id c = [])) ∨
    ((idOk id = true ∧ decide (0 ≤ c ∧ c ≤ 255) = true ∧ livesB l id c = true ∧ (((sameN l c : Nat) : Int) == 20) = true) ∧ Aside (cutErr l id c = 2 ∧ cutV l id c = [])) ∨
    ((idOk id = true ∧ decide (0 ≤ c ∧ c ≤ 255) = true ∧ livesB l id c = true ∧ (((sameN l c : Nat) : Int) == 20) = false) ∧ Aside (cutErr l id c = 0 ∧ cutV l id c = l ++ [⟨⟨id, c, [], []⟩, true⟩])) := by
  have hs := store_same h1 c
  have key : ∀ x, cutErr l id c = x → x ≠ 0 → cutErr l id c = x ∧ cutV l id c = [] := fun x hx h0 => ⟨hx, by rw [cutV, hx, if_neg h0]⟩
  have e0 : cutErr l id c = if idOk id = false then 3 else if ¬ (0 ≤ c ∧ c ≤ 255) then 1 else if livesI l id c < 0 then 4 else if 20 ≤ sameN l c then 2 else 0 := by rw [cutErr, if_neg (by simpa using h1)]
  cases a1 : idOk id
  · exact .inl ⟨rfl, ⟨key 3 (by rw [e0, if_pos a1]) (by decide)⟩⟩
  · rw [if_neg (by simp [a1])] at e0
    cases a2 : decide (0 ≤ c ∧ c ≤ 255)
    · exact .inr (.inl ⟨⟨rfl, rfl⟩, ⟨key 1 (by rw [e0, if_pos (of_decide_eq_false a2)]) (by decide)⟩⟩)
    · rw [if_neg (by simpa using of_decide_eq_true a2)] at e0
      cases a3 : livesB l id c
      · exact .inr (.inr (.inl ⟨⟨rfl, rfl, rfl⟩, ⟨key 4 (by rw [e0, if_pos (by have := of_decide_eq_false a3; omega)]) (by decide)⟩⟩))
      · rw [if_neg (by have := of_decide_eq_true a3; omega)] at e0
        by_cases a4 : 20 ≤ sameN l c
        · exact .inr (.inr (.inr (.inl ⟨⟨rfl, rfl, rfl, by simp; omega⟩, ⟨key 2 (by rw [e0, if_pos a4]) (by decide)⟩⟩)))
        · rw [if_neg a4] at e0
          exact .inr (.inr (.inr (.inr ⟨⟨rfl, rfl, rfl, by simp; omega⟩, ⟨e0, by rw [cutV, if_pos e0]⟩⟩)))
set_option maxHeartbeats 4000000 in
set_option maxRecDepth 100000 in
theorem storeCut (A : Option Addr) (c : Nat) (l : List Ver) (id : ByteArray) (cats : Int) (ok : Nat → Prop) (w : World) (hr : verR.Row w ok A l) (hc : l.length ≤ c) :
    Calls Tryz.prog 133 #[.slice A l.length c, .string id, .int .i64 cats] w fun e w' => ∃ v, e = .returned (.tuple #[v, .int .i64 (cutErr l id cats)]) ∧
      verR.Sl w' (fun k => w.heap.size ≤ k) v (cutV l id cats) ∧ Below w.heap.size w w' := by
  have HR := Aside.mk hr
  clear hr
  by_cases h1 : storeErr l = 0
  · have H1 := Aside.mk h1
    rcases cut_ways l id cats h1 with ⟨a1, HX⟩ | ⟨⟨a1, a2⟩, HX⟩ | ⟨⟨a1, a2, a3⟩, HX⟩ | ⟨⟨a1, a2, a3, a4⟩, HX⟩ | ⟨⟨a1, a2, a3, a4⟩, HX⟩
    case inr.inr.inr.inr =>
      have hsm := put_small (x := ⟨⟨id, cats, [], []⟩, true⟩) H1.out (by simp)
      have HSM := Aside.mk hsm
      have HL := Aside.mk (show l.length * 80 ≤ 140737488355328 ∧ (l.length + 1) * 80 ≤ 140737488355328 by have := (store_ok H1.out).1; omega)
      rw [HX.out.1, HX.out.2]
      clear h1 hsm
      go_enter Tryz.func133, Tryz.ntmps133
      go_wp2_with fail
      refine (storeCheck _ c l _ _ HR.out hc).mono ?_
      rw [H1.out]
      rintro e w1 ⟨rfl, hb⟩
      have HR1 := Aside.mk (HR.out.below hb)
      have HB1 := Aside.mk hb
      clear HR hb
      go_wp2_with (first
        | (go_at_call 85; refine (recId _ _).mono ?_; rw [a1]; rintro e w' ⟨rfl, rfl⟩)
        | (go_at_call 141; refine (labelCats _ _).mono ?_; rw [a2]; rintro e w' ⟨rfl, rfl⟩)
        | (go_at_call 191; refine (storeLives _ _ _ l id cats _ _ HR1.out rfl).mono ?_; rw [a3]; rintro e w' ⟨rfl, rfl⟩)
        | (go_at_call 129; refine (storeMany _ _ _ l cats _ _ HR1.out rfl).mono ?_; rintro e w2 ⟨rfl, hb⟩; have HR2 := Aside.mk (HR1.out.below hb); have HB2 := Aside.mk (below_step HB1.out hb); clear hb)
        | (go_at_call 130; refine (cloneV A c l ok _ HR2.out HL.out.1).mono ?_; rintro e w4 ⟨v4, rfl, ho, hb⟩
           have HB4 := Aside.mk (below_step HB2.out hb)
           have HO4 := Aside.mk ho
           have HS4 := Aside.mk hb.size
           clear hb ho)
        | (at_builtin; refine list_one (w0 := w4) verR w2.heap.size (by rfl) (.tmp 30) (.tmp 35) 42 63 _ 80 (by rfl) Tryz.underlying42 infoV (by rfl) (by decide) (by decide) v4 l ⟨⟨id, cats, [], []⟩, true⟩ [.string id, .int .i64 cats, .slice none 0 0, .slice none 0 0, .bool true] (fun k => ok k ∧ k < w2.heap.size) w4.heap.size 1 (by rfl) (by rfl) (blk_new w4 _ _) (verK.2 ⟨_, _, rfl, Sl.nil _ _ _, Sl.nil _ _ _⟩) (HO4.out.below ((Below.refl _ _).alloc (Nat.le_refl _) _)) ((Below.refl _ _).alloc HS4.out _) (Nat.le_trans HS4.out (by simp)) HL.out.2 ?_; intro v5 w5 HO5 HB5 hg5 hat5
           have HO5' := Aside.mk HO5; have HB5' := Aside.mk (HB4.out.grown (World.grownBy.trans (World.grownBy_alloc w4 _ _) hg5) HB4.out.size (fun k hk => Nat.le_trans HB2.out.size (HO4.out.lt k hk).1)); obtain ⟨A5, c5, rfl⟩ := Sl.form HO5.sl; clear HO5 HB5 hg5 hat5)
        | (go_at_call 64; refine (storeCopied A5 _ c5 (l ++ [⟨⟨id, cats, [], []⟩, true⟩]) _ _ HO5'.out.row.2.2 (by simp) HSM.out.1 HSM.out.2).mono ?_; rintro e w6 ⟨v6, rfl, ho, hb⟩
           have HO6 := Aside.mk (And.intro ho hb)
           clear ho hb))
      go_ret2
      exact ⟨_, rfl, (Own.sl_new HO6.out.1).mono fun k hk _ => Nat.le_trans HB5'.out.size hk, below_step HB5'.out HO6.out.2⟩
    all_goals
      rw [HX.out.1, HX.out.2]
      clear h1
      go_enter Tryz.func133, Tryz.ntmps133
      go_wp2_with fail
      refine (storeCheck _ c l _ _ HR.out hc).mono ?_
      rw [H1.out]
      rintro e w1 ⟨rfl, hb⟩
      have HR1 := Aside.mk (HR.out.below hb)
      have HB1 := Aside.mk hb
      clear HR hb
      go_wp2_with (first
        | (go_at_call 85; refine (recId _ _).mono ?_; rw [a1]; rintro e w' ⟨rfl, rfl⟩)
        | (go_at_call 141; refine (labelCats _ _).mono ?_; rw [a2]; rintro e w' ⟨rfl, rfl⟩)
        | (go_at_call 191; refine (storeLives _ _ _ l id cats _ _ HR1.out rfl).mono ?_; rw [a3]; rintro e w' ⟨rfl, rfl⟩)
        | (go_at_call 129; refine (storeMany _ _ _ l cats _ _ HR1.out rfl).mono ?_; rintro e w2 ⟨rfl, hb⟩; have HB1 := Aside.mk (below_step HB1.out hb); clear hb))
      go_ret2
      exact ⟨_, rfl, Sl.nil _ _ _, HB1.out⟩
  · have e3 : cutErr l id cats = storeErr l := by rw [cutErr, if_pos h1]
    have e4 : cutV l id cats = [] := by rw [cutV, e3, if_neg h1]
    have g3 : (storeErr l != 0) = true := by simp [h1]
    rw [e3, e4]
    clear e3 e4 h1
    go_enter Tryz.func133, Tryz.ntmps133
    go_wp2_with fail
    refine (storeCheck _ c l _ _ HR.out hc).mono ?_
    rintro e w1 ⟨rfl, hb⟩
    have HB1 := Aside.mk hb
    clear HR hb
    go_wp2_with fail
    go_ret2
    exact ⟨_, rfl, Sl.nil _ _ _, HB1.out⟩
end Go.Proofs.WK
