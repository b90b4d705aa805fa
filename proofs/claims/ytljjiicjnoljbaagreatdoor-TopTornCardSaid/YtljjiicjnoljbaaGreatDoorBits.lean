/-
  Kinds of secrets as bits: wyref.kinds, wyref.Part (of numbers from 0 to 255).
-/
import Derived.Test.YtljjiicjnoljbaaGreatDoorDat
import Derived.Test.YtljjiicjnoljbaaGreatDoorWk0
import Derived.Test.YtljjiicjnoljbaaGreatDoorPl0
namespace Go.Proofs.WK
open Go.RowKit Rp

def kindsF (n : Int) (k : Nat) (x : Int) : Option Bool := if 0 ≤ x ∧ x < k ∧ bit n x.toNat = true then some true else none
noncomputable def kT : KT Tryz.prog 3 Int := i64T Tryz.underlying3
theorem zeroBool (w : World) : (zeroValue 4).run Tryz.prog w = .ok (.bool false) w := by kernel_rfl
noncomputable def bE : ET Tryz.prog 4 Bool := boolE Tryz.underlying4 zeroBool

theorem bit_t {n : Int} (h : 0 ≤ n) (k : Nat) : ((n / 2 ^ k).tmod 2 == 1) = bit n k := by
  unfold bit
  rw [Int.tmod_eq_emod_of_nonneg (Int.ediv_nonneg h (Int.le_of_lt (Int.pow_pos (by decide))))]
theorem kindsF_yes {n : Int} {k : Nat} (hb : bit n k = true) : (fun z : Int => if z = (k : Int) then some true else kindsF n k z) = kindsF n (k + 1) := by
  funext z
  unfold kindsF
  by_cases h : z = (k : Int)
  · subst h; simp [hb]; omega
  · rw [if_neg h]
    by_cases h2 : 0 ≤ z ∧ z < k ∧ bit n z.toNat = true
    · rw [if_pos h2, if_pos ⟨h2.1, by omega, h2.2.2⟩]
    · rw [if_neg h2, if_neg fun h3 => h2 ⟨h3.1, by omega, h3.2.2⟩]
theorem kindsF_no {n : Int} {k : Nat} (hb : bit n k = false) : kindsF n k = kindsF n (k + 1) := by
  funext z
  unfold kindsF
  by_cases h2 : 0 ≤ z ∧ z < k ∧ bit n z.toNat = true
  · rw [if_pos h2, if_pos ⟨h2.1, by omega, h2.2.2⟩]
  · rw [if_neg h2, if_neg fun h3 => h2 ⟨h3.1, by
      have : z ≠ (k : Int) := fun e => by subst e; simp [hb] at h3
      omega, h3.2.2⟩]
theorem kindsF_zero (n : Int) : kindsF n 0 = fun _ => none := by
  funext z
  unfold kindsF
  rw [if_neg (by omega)]

theorem kindsF_some {n z : Int} {v : Bool} (h : kindsF n 8 z = some v) : 0 ≤ z ∧ z < 8 ∧ bit n z.toNat = true ∧ v = true := by
  unfold kindsF at h
  split at h
  · rename_i h1
    exact ⟨h1.1, h1.2.1, h1.2.2, by injection h with h; exact h.symm⟩
  · cases h
theorem kindsF_get {n z : Int} (h0 : 0 ≤ z) (h8 : z < 8) : (kindsF n 8 z).getD bE.zero = bit n z.toNat := by
  unfold kindsF
  show _ = _
  cases hb : bit n z.toNat with
  | true => rw [if_pos ⟨h0, h8, rfl⟩]; rfl
  | false => rw [if_neg fun h => by cases h.2.2]; rfl

set_option maxHeartbeats 800000 in
set_option maxRecDepth 100000 in
theorem kindsC (n : Int) (h0 : 0 ≤ n) (w : World) :
    Calls Tryz.prog 244 #[.int .i64 n] w fun e w' => ∃ r, e = .returned (.map (some r)) ∧ w.heap.size ≤ r ∧ MapIs kT bE w' r 8 (kindsF n 8) ∧ Below w.heap.size w w' := by
  have hmm := @run_makeMap Tryz.prog
  go_enter Tryz.func244, Tryz.ntmps244
  go_wp2
  go_loopw [4, 6] (fun _ i wr => ∃ k : Nat, k ≤ 8 ∧ i = .int .i64 k ∧ Aside (MapIs kT bE wr w.heap.size k (kindsF n k)) ∧ Aside (Below w.heap.size w wr)) (fun _ i _ => 8 - (intOf i).toNat)
  case atStart => exact ⟨0, Nat.zero_le _, rfl, ⟨by rw [kindsF_zero]; exact MapIs.made _ _ _⟩, ⟨(Below.refl _ _).alloc (Nat.le_refl _) _⟩⟩
  case round =>
    obtain ⟨k, hk, rfl, HM, HB⟩ := hrel
    by_cases hlt : k < 8
    · have ht := bit_t h0 k
      cases hb : bit n k with
      | true =>
        rw [hb] at ht
        go_wp2_with (at_mapUpdate; refine map_put (K := kT) (E := bE) rfl _ _ _ rfl Tryz.underlying222 rfl HM.out ?_ (k : Int) rfl (i64_wf (by omega) (by omega)) true rfl trivial ?_; (exact Nat.lt_of_lt_of_le hlt (by unfold maxLen; omega)); intro w1 hm1 hg1; have HM1 := Aside.mk hm1; have HB1 := Aside.mk (HB.out.grown hg1 HB.out.size (fun j hj => by cases hj; exact Nat.le_refl _)); clear hm1 hg1)
        refine ⟨⟨k + 1, by omega, by go_num, by rw [← kindsF_yes hb]; exact HM1, HB1⟩, by simp [intOf]; omega⟩
      | false =>
        rw [hb] at ht
        go_wp2_with fail
        refine ⟨⟨k + 1, by omega, by go_num, ⟨by rw [← kindsF_no hb]; obtain ⟨D, h1, h2⟩ := HM.out; exact ⟨D, h1.mono (by omega), h2⟩⟩, HB⟩, by simp [intOf]; omega⟩
    · obtain rfl : k = 8 := by omega
      go_wp2_with fail
      go_ret
      exact ⟨_, rfl, Nat.le_refl _, HM.out, HB.out⟩

set_option maxHeartbeats 800000 in
set_option maxRecDepth 100000 in
/-- wyref.Part: is all that a has in b? -/
theorem partC (x y : Int) (h0 : 0 ≤ x) (h2 : 0 ≤ y) (w : World) :
    Calls Tryz.prog 173 #[.int .i64 x, .int .i64 y] w fun e w' => e = .returned (.bool (part x y)) ∧ Below w.heap.size w w' := by
  go_enter Tryz.func173, Tryz.ntmps173
  go_wp2_with fail
  refine (kindsC x h0 _).mono ?_
  rintro e w1 ⟨r, rfl, hr, hm, hb⟩
  have HM := Aside.mk hm
  have HB := Aside.mk hb
  clear hm hb
  go_wp2_with (at_range; refine map_range (K := kT) (E := bE) rfl _ rfl Tryz.underlying222 rfl HM.out ?_; intro w2 hrg hb2; have HR := Aside.mk hrg; have HB2 := Aside.mk (below_step HB.out hb2); clear hrg hb2)
  have hgw : w.heap.size ≤ w1.heap.size := HB.out.size
  clear HB HM
  generalize hg2 : w1.heap.size = g at HR
  have HG := Aside.mk hg2
  clear hg2
  go_frame
  go_loopw [5] (fun _ wr => ∃ left : Int → Prop, Aside (Ranging kT bE wr r g 8 (kindsF x 8) left) ∧ Aside (∀ z, kT.okk z → (kindsF x 8 z).isSome = true → ¬ left z → bit y z.toNat = true) ∧ Aside (Below w.heap.size w wr)) (fun _ wr => wr.rangeLeft r g)
  case atStart => exact ⟨_, HR, ⟨fun z _ h1 h2 => absurd h1 h2⟩, HB2⟩
  case round =>
    clear HR HB2
    obtain ⟨left, HR, HS, HB2⟩ := hrel
    have ek : ∀ z, kT.kv z = Value.int .i64 z := fun _ => rfl
    have ee : ∀ z, bE.ev z = Value.bool z := fun _ => rfl
    go_wp2_with (first | (at_next; refine map_next (K := kT) (E := bE) rfl _ rfl rfl HR.out ?_ ?_; all_goals (first | (intro z v w3 hz hlz hf hrg hlt hgr hsz hen; have HZ := Aside.mk (And.intro hz (And.intro hlz hf)); have HR3 := Aside.mk hrg; have HL := Aside.mk hlt; have HB3 := Aside.mk (HB2.out.grown hgr HB2.out.size (fun j hj => by cases hj; rw [← HG.out]; exact hgw)); clear hz hlz hf hrg hlt hgr hsz) | (intro hdone; have HD := Aside.mk hdone; clear hdone))) | (go_at_call 244; refine (kindsC y h2 _).mono ?_; rintro e w4 ⟨r4, rfl, hr4, hm4, hb4⟩; have HM4 := Aside.mk hm4; have HB4 := Aside.mk hb4; clear hm4 hb4 hr4) | (at_lookup; refine map_look (K := kT) (E := bE) rfl _ _ rfl Tryz.underlying222 rfl HM4.out z rfl HZ.out.1 ?_))
    · have H := show part x y = true from by
        unfold part
        rw [List.all_eq_true]
        intro i hi
        have hi8 : i < 8 := by simpa using hi
        cases hb : bit x i with
        | false => rfl
        | true =>
          have hok : kT.okk (i : Int) := i64_wf (by omega) (by omega)
          have h1 := HS.out (i : Int) hok (by unfold kindsF; rw [if_pos ⟨by omega, by omega, by simpa using hb⟩]; rfl) (HD.out _ hok)
          simpa using h1
      go_ret
      exact ⟨by rw [H]; rfl, HB2.out⟩
    · rename_i hf
      obtain ⟨z0, z8, zb, _⟩ := kindsF_some HZ.out.2.2
      rw [kindsF_get z0 z8] at hf
      have H := show part x y = false from Bool.eq_false_iff.2 fun h => by
        unfold part at h
        rw [List.all_eq_true] at h
        have h1 := h z.toNat (by simp; omega)
        rw [zb] at h1
        simp at h1 hf
        rw [hf] at h1
        cases h1
      go_ret
      exact ⟨by rw [H]; rfl, below_step HB3.out HB4.out⟩
    · rename_i hf
      obtain ⟨z0, z8, zb, _⟩ := kindsF_some HZ.out.2.2
      rw [kindsF_get z0 z8] at hf
      refine ⟨⟨_, ⟨HR3.out.below HB4.out⟩, ⟨fun u hu h1 h2 => ?_⟩, ⟨below_step HB3.out HB4.out⟩⟩, by rw [HR3.out.left_below HB4.out]; exact HL.out⟩
      by_cases hl : left u
      · have e : u = z := Classical.byContradiction fun hne => h2 ⟨hl, hne⟩
        subst e
        simpa using hf
      · exact HS.out u hu h1 hl
end Go.Proofs.WK
