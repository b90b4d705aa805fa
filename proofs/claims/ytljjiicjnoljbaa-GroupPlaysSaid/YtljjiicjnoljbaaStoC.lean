/-
  store.lives, store.many; wyref.Lives, wyref.Same.
-/
import Derived.Test.YtljjiicjnoljbaaDat
import Derived.Test.YtljjiicjnoljbaaWk0
namespace Go.Proofs.WK
open Go.RowKit Rp
def livesB (l : List Ver) (id : ByteArray) (c : Int) : Bool := decide (0 ≤ livesI l id c)
theorem livesI_hit {l : List Ver} {id : ByteArray} {c : Int} {j : Nat} (hj : j < l.length) (h : livesK l id c l.length = livesK l id c (j + 1)) (hh : hitV l[j] id c = true) : livesB l id c = !l[j].gone := by
  unfold livesB livesI
  rw [h, livesK_step hj, if_pos hh]
  cases l[j].gone <;> simp
theorem hit_of {v : Ver} {id : ByteArray} {c : Int} (b1 : (v.r.id.toList == id.toList) = true) (b2 : (v.r.cats == c) = true) : hitV v id c = true := by
  unfold hitV
  rw [toList_beq] at b1
  simp at b1 b2
  simp [b1, b2]
theorem no_hit1 {v : Ver} {id : ByteArray} {c : Int} (b1 : (v.r.id.toList == id.toList) = false) : hitV v id c = false := by
  unfold hitV
  rw [toList_beq] at b1
  rw [b1]; rfl
theorem no_hit2 {v : Ver} {id : ByteArray} {c : Int} (b2 : (v.r.cats == c) = false) : hitV v id c = false := by
  unfold hitV
  simp at b2
  simp [b2]
/-- Three ways of a version, as the walk asks it. -/
theorem hit_ways (v : Ver) (id : ByteArray) (c : Int) : ((v.r.id.toList == id.toList) = false ∧ Aside (hitV v id c = false)) ∨ (((v.r.id.toList == id.toList) = true ∧ (v.r.cats == c) = false) ∧ Aside (hitV v id c = false)) ∨ (((v.r.id.toList == id.toList) = true ∧ (v.r.cats == c) = true) ∧ Aside (hitV v id c = true)) := by
  cases b1 : (v.r.id.toList == id.toList)
  · exact .inl ⟨rfl, ⟨no_hit1 b1⟩⟩
  · cases b2 : (v.r.cats == c)
    · exact .inr (.inl ⟨⟨rfl, rfl⟩, ⟨no_hit2 b2⟩⟩)
    · exact .inr (.inr ⟨⟨rfl, rfl⟩, ⟨hit_of b1 b2⟩⟩)
set_option maxHeartbeats 1600000 in
set_option maxRecDepth 100000 in
theorem storeLives (A : Option Addr) (n c : Nat) (l : List Ver) (id : ByteArray) (cats : Int) (ok : Nat → Prop) (w : World) (hr : verR.Row w ok A l) (hn : l.length = n) :
    Calls Try.prog 108 #[.slice A n c, .string id, .int .i64 cats] w fun e w' => e = .returned (.bool (livesB l id cats)) ∧ w = w' := by
  subst hn
  have hm := hr.1
  have HR := Aside.mk hr
  clear hr
  go_enter Try.func108, Try.ntmps108
  go_wp2_with fail
  go_loopw [7] (fun i wr => ∃ m : Nat, m ≤ l.length ∧ i = .int .i64 ((m : Int) - 1) ∧ Aside (livesK l id cats l.length = livesK l id cats m) ∧ w = wr) (fun i _ => (intOf i + 1).toNat)
  case atStart => exact ⟨l.length, Nat.le_refl _, rfl, ⟨rfl⟩, rfl⟩
  case round =>
    obtain ⟨m, hml, rfl, HK, rfl⟩ := hrel
    cases m with
    | zero =>
      have HX := Aside.mk (show livesB l id cats = false by unfold livesB livesI; rw [HK.out]; rfl)
      rw [show (((0 : Nat) : Int) - 1) = -1 from rfl]
      go_wp2_with fail
      go_ret
      exact ⟨by rw [HX.out]; rfl, rfl⟩
    | succ j =>
      rw [show (((j + 1 : Nat) : Int) - 1) = (j : Int) by omega]
      have hj : j < l.length := by omega
      have p0 : (0 : Int) ≤ (j : Int) := by omega
      have p1 : (j : Int) < (l.length : Int) := by omega
      obtain ⟨ad, A1, c1, A2, c2, rfl, hlt, x0, x1, x2, x3, x4, _, _, _, _⟩ := ver_at HR.out hj
      have HS := Aside.mk (livesK_step (id := id) (c := cats) hj)
      clear x2 x3
      rcases hit_ways l[j] id cats with ⟨b, HB⟩ | ⟨b, HB⟩ | ⟨b, HB⟩
      case inr.inr =>
        have HX := Aside.mk (livesI_hit hj HK.out HB.out)
        go_wp2_with fail
        go_ret
        exact ⟨by rw [HX.out]; rfl, rfl⟩
      all_goals
        have HX := Aside.mk (show livesK l id cats l.length = livesK l id cats j by rw [HK.out, HS.out, HB.out]; rfl)
        go_wp2_with fail
        refine ⟨⟨j, by omega, rfl, HX, trivial⟩, by simp [intOf]⟩
set_option maxHeartbeats 1600000 in
set_option maxRecDepth 100000 in
theorem storeMany (A : Option Addr) (n c : Nat) (l : List Ver) (cats : Int) (ok : Nat → Prop) (w : World) (hr : verR.Row w ok A l) (hn : l.length = n) :
    Calls Try.prog 99 #[.slice A n c, .int .i64 cats] w fun e w' => e = .returned (.int .i64 (sameN l cats)) ∧ Below w.heap.size w w' := by
  subst hn
  have hm := hr.1
  have HR := Aside.mk hr
  clear hr
  go_enter Try.func99, Try.ntmps99
  go_wp2_with fail
  go_loopw [5, 10] (fun x i wr => ∃ k : Nat, k ≤ l.length ∧ i = .int .i64 k ∧ x = .int .i64 (sameN (l.take k) cats) ∧ Aside (Below w.heap.size w wr)) (fun _ i _ => l.length - (intOf i).toNat)
  case atStart => exact ⟨0, Nat.zero_le _, rfl, rfl, ⟨Below.refl _ _⟩⟩
  case round =>
    obtain ⟨k, hk, rfl, rfl, HB⟩ := hrel
    by_cases hlt : k < l.length
    · obtain ⟨ad, A1, c1, A2, c2, rfl, _, x0, x1, x2, x3, x4, _, _, _, _⟩ := ver_at (HR.out.below HB.out) hlt
      have HS := Aside.mk (sameN_step hlt cats)
      have hle := sameN_le (l.take k) cats
      have hl2 := List.length_take_le k l
      have h0 : (0 : Int) ≤ (sameN (l.take k) cats : Int) := by omega
      have h1 : (sameN (l.take k) cats : Int) < 9223372036854775807 := by omega
      clear hle hl2
      have HB1 := Aside.mk (HB.out.alloc HB.out.size (.cells #[.string l[k].r.id, .int .i64 l[k].r.cats, .slice A1 l[k].r.fields.length c1, .slice A2 l[k].r.refs.length c2, .bool l[k].gone] 129))
      cases hc : (l[k].r.cats == cats) with
      | true =>
        have HX := Aside.mk (show sameN (l.take (k + 1)) cats = sameN (l.take k) cats + 1 by rw [HS.out, if_pos (by simpa using hc)])
        go_wp2_with fail
        refine ⟨⟨k + 1, by omega, by go_num, by rw [HX.out]; go_num, HB1⟩, by simp [intOf]; omega⟩
      | false =>
        have HX := Aside.mk (show sameN (l.take (k + 1)) cats = sameN (l.take k) cats by rw [HS.out, if_neg (by simpa using hc)]; rfl)
        go_wp2_with fail
        refine ⟨⟨k + 1, by omega, by go_num, by rw [HX.out], HB1⟩, by simp [intOf]; omega⟩
    · obtain rfl : k = l.length := by omega
      rw [List.take_length]
      go_wp2_with fail
      go_ret
      exact ⟨rfl, HB.out⟩
end Go.Proofs.WK
