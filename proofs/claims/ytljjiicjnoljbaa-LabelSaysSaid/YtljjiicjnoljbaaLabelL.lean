/-
  The law LabelSays, walked: it returns true.
-/
import Derived.Test.YtljjiicjnoljbaaLabel
import Derived.Test.YtljjiicjnoljbaaBox
import Derived.Deep.RegionHeld3
namespace Go.Proofs.WK
open Go.RowKit Rp

def cntK (l : Lab) (k : Nat) : Int := (l.level + 1) * ((List.range k).countP fun c : Nat => part (c : Int) l.cats)
set_option maxRecDepth 100000 in
theorem cnt_all {x : Int} (h0 : 0 ≤ x) (h1 : x ≤ 255) : (((List.range 256).countP fun c : Nat => part (c : Int) x : Nat) : Int) = 2 ^ (pop x).toNat := by
  have h : ∀ y : Int, 0 ≤ y → y ≤ 255 → (((List.range 256).countP fun c : Nat => part (c : Int) y : Nat) : Int) = 2 ^ (pop y).toNat := allBytes (by decide +kernel)
  exact h x h0 h1
theorem cnt_end {l : Lab} (h0 : 0 ≤ l.cats) (h1 : l.cats ≤ 255) : cntK l 256 = countL l := by rw [cntK, cnt_all h0 h1]; rfl
theorem cnt_step (l : Lab) (k : Nat) : cntK l (k + 1) = cntK l k + if part (k : Int) l.cats = true then l.level + 1 else 0 := by
  unfold cntK
  rw [List.range_succ, List.countP_append]
  cases h : part (k : Int) l.cats <;> simp [Int.mul_add, h]
theorem cnt_le {l : Lab} (h : 0 ≤ l.level) (k : Nat) : 0 ≤ cntK l k ∧ cntK l k ≤ (l.level + 1) * k := by
  unfold cntK
  have := List.countP_le_length (p := fun c : Nat => part (c : Int) l.cats) (l := List.range k)
  simp at this
  exact ⟨Int.mul_nonneg (by omega) (by omega), Int.mul_le_mul_of_nonneg_left (by omega) (by omega)⟩
def rankK (l : Lab) (k : Nat) : Int := (List.range k).foldl (fun n i => n + l.cats / 2 ^ i % 2) l.level
theorem rank_step (l : Lab) (k : Nat) : rankK l (k + 1) = rankK l k + l.cats / 2 ^ k % 2 := by simp [rankK, List.range_succ]
theorem rank_le (l : Lab) : ∀ k : Nat, l.level ≤ rankK l k ∧ rankK l k ≤ l.level + k
  | 0 => by simp [rankK]
  | k + 1 => by
    have := rank_le l k
    rw [rank_step]
    omega
theorem rank_end (l : Lab) : rankK l 8 = rankL l := by
  simp only [rankK, rankL, pop, List.range_succ, List.range_zero, List.nil_append, List.foldl_append, List.foldl_cons, List.foldl_nil]
  omega

theorem tm_t {n : Int} (h : 0 ≤ n) (k : Nat) : (n / 2 ^ k).tmod 2 = n / 2 ^ k % 2 := Int.tmod_eq_emod_of_nonneg (Int.ediv_nonneg h (Int.le_of_lt (Int.pow_pos (by decide))))
theorem tm_b {n : Int} (h : 0 ≤ n) (k : Nat) : (n / 2 ^ k).tmod 2 = if bit n k = true then 1 else 0 := by
  rw [tm_t h, bit]
  by_cases h1 : n / 2 ^ k % 2 = 1
  · simp [h1]
  · have h2 : (n / 2 ^ k % 2 == 1) = false := by simp [h1]
    rw [h2]
    simp only [Bool.false_eq_true, if_false]
    omega
def pw (k : Nat) : Int := ((2 ^ k : Nat) : Int)
theorem pw_step (k : Nat) : pw (k + 1) = pw k * 2 := by unfold pw; rw [Nat.pow_succ]; omega
theorem pw_le {k : Nat} (h : k ≤ 8) : 1 ≤ pw k ∧ pw k ≤ 256 := by
  have h1 : 2 ^ k ≤ 2 ^ 8 := Nat.pow_le_pow_right (by omega) h
  have h2 : 0 < 2 ^ k := Nat.pow_pos (by omega)
  unfold pw
  omega
def orK (a b : Lab) (k : Nat) : Int := (sumN k (fun i => or (bit a.cats i) (bit b.cats i)) : Nat)
def andK (a b : Lab) (k : Nat) : Int := (sumN k (fun i => and (bit a.cats i) (bit b.cats i)) : Nat)
theorem orK_step (a b : Lab) (k : Nat) : orK a b (k + 1) = orK a b k + if (bit a.cats k || bit b.cats k) = true then pw k else 0 := by
  unfold orK pw
  simp only [sumN]
  split <;> omega
theorem andK_step (a b : Lab) (k : Nat) : andK a b (k + 1) = andK a b k + if (bit a.cats k && bit b.cats k) = true then pw k else 0 := by
  unfold andK pw
  simp only [sumN]
  split <;> omega
theorem orK_le (a b : Lab) {k : Nat} (h : k ≤ 8) : 0 ≤ orK a b k ∧ orK a b k ≤ 256 := by
  have h1 := sumN_lt k (fun i => or (bit a.cats i) (bit b.cats i))
  have h2 := (pw_le h).2
  unfold orK
  unfold pw at h2
  omega
theorem andK_le (a b : Lab) {k : Nat} (h : k ≤ 8) : 0 ≤ andK a b k ∧ andK a b k ≤ 256 := by
  have h1 := sumN_lt k (fun i => and (bit a.cats i) (bit b.cats i))
  have h2 := (pw_le h).2
  unfold andK
  unfold pw at h2
  omega
abbrev lab2 (l : Lab) : List Value := [.int .i64 l.level, .int .i64 l.cats]
abbrev Kp (w0 w : World) (n : Nat) (l : Lab) : Prop := w.cell? { block := n, off := 0 } = some (.int .i64 l.level) ∧ w.cell? { block := n, off := 1 } = some (.int .i64 l.cats) ∧ Aside (Bk w n (lab2 l) ∧ Below w0.heap.size w0 w)
theorem Kp.start {w : World} {n : Nat} {l : Lab} (h : Bk w n (lab2 l)) : Kp w w.drew n l := ⟨h.cell 0, h.cell 1, ⟨h, (Below.refl _ _).drew⟩⟩
theorem Kp.step {w0 w w' : World} {n : Nat} {l : Lab} (h : Kp w0 w n l) (hb : Below w.heap.size w w') : Kp w0 w' n l :=
  ⟨(h.2.2.out.1.below hb).cell 0, (h.2.2.out.1.below hb).cell 1, ⟨h.2.2.out.1.below hb, below_step h.2.2.out.2 hb⟩⟩
theorem lab4 : labErr ⟨4, 0⟩ = 1 := by decide
set_option maxHeartbeats 1600000 in
set_option maxRecDepth 100000 in
theorem labelSaysL (a b : Lab) (w : World) :
    Calls Try.prog 4 #[.agg #[.int .i64 a.level, .int .i64 a.cats], .agg #[.int .i64 b.level, .int .i64 b.cats]] w fun e w' => e = .returned (.bool true) ∧ Below w.heap.size w w' := by
  go_enter Try.func4, Try.ntmps4
  go_wp2_with fail
  have HA0 := Aside.mk ((Bk.made w (lab2 a) 29).alloc (.cells (lab2 b).toArray 29))
  have HB0 := Aside.mk (Bk.made (w.alloc (.cells (lab2 a).toArray 29)) (lab2 b) 29)
  rw [show (w.alloc (.cells (lab2 a).toArray 29)).heap.size = w.heap.size + 1 from by simp] at HB0
  have HW0 := Aside.mk (((Below.refl w.heap.size w).alloc (Nat.le_refl _) (.cells (lab2 a).toArray 29)).alloc (by simp) (.cells (lab2 b).toArray 29))
  generalize hW : (w.alloc (.cells (lab2 a).toArray 29)).alloc (.cells (lab2 b).toArray 29) = w0 at HA0 HB0 HW0
  clear hW
  generalize w.heap.size = n2 at HA0 HB0
  generalize n2 + 1 = n3 at HB0
  refine (labBelow a b _).mono ?_
  rintro e w1 ⟨rfl, hb⟩
  have HA1 := Aside.mk (HA0.out.below hb)
  have HB1 := Aside.mk (HB0.out.below hb)
  have HW1 := Aside.mk (below_step HW0.out hb)
  clear HA0 HB0 HW0 hb
  have q1 := HA1.out.two
  have q2 := HB1.out.two
  go_wp2_with fail
  refine (labJoin a b _).mono ?_
  rintro e w2 ⟨rfl, hb⟩
  clear q1 q2
  have HA2 := Aside.mk (HA1.out.below hb)
  have HB2 := Aside.mk (HB1.out.below hb)
  have HW2 := Aside.mk (below_step HW1.out hb)
  clear HA1 HB1 HW1 hb
  have q3 := HA2.out.two
  have q4 := HB2.out.two
  go_wp2_with fail
  have HA3 := Aside.mk (HA2.out.alloc (.cells (lab2 (joinL a b)).toArray 29))
  have HB3 := Aside.mk (HB2.out.alloc (.cells (lab2 (joinL a b)).toArray 29))
  have HJ3 := Aside.mk (Bk.made w2 (lab2 (joinL a b)) 29)
  have HW3 := Aside.mk (HW2.out.alloc HW2.out.size (.cells (lab2 (joinL a b)).toArray 29))
  generalize hW : w2.alloc (.cells (lab2 (joinL a b)).toArray 29) = w3 at HA3 HB3 HW3 HJ3
  clear hW HA2 HB2 HW2
  generalize w2.heap.size = n7 at HJ3
  refine (labMeet a b _).mono ?_
  rintro e w4 ⟨rfl, hb⟩
  clear q3 q4
  have HA4 := Aside.mk (HA3.out.below hb)
  have HB4 := Aside.mk (HB3.out.below hb)
  have HJ4 := Aside.mk (HJ3.out.below hb)
  have HW4 := Aside.mk (below_step HW3.out hb)
  clear HA3 HB3 HW3 HJ3 hb
  have q5 := HA4.out.two
  have q6 := HB4.out.two
  go_wp2_with fail
  have HA5 := Aside.mk (HA4.out.alloc (.cells (lab2 (meetL a b)).toArray 29))
  have HB5 := Aside.mk (HB4.out.alloc (.cells (lab2 (meetL a b)).toArray 29))
  have HJ5 := Aside.mk (HJ4.out.alloc (.cells (lab2 (meetL a b)).toArray 29))
  have HM5 := Aside.mk (Bk.made w4 (lab2 (meetL a b)) 29)
  have HW5 := Aside.mk (HW4.out.alloc HW4.out.size (.cells (lab2 (meetL a b)).toArray 29))
  generalize hW : w4.alloc (.cells (lab2 (meetL a b)).toArray 29) = w5 at HA5 HB5 HW5 HJ5 HM5
  clear hW HA4 HB4 HW4 HJ4
  generalize w4.heap.size = n9 at HM5
  refine (labCount a _).mono ?_
  rintro e w6 ⟨rfl, hb⟩
  clear q5 q6
  have HA6 := Aside.mk (HA5.out.below hb)
  have HB6 := Aside.mk (HB5.out.below hb)
  have HJ6 := Aside.mk (HJ5.out.below hb)
  have HM6 := Aside.mk (HM5.out.below hb)
  have HW6 := Aside.mk (below_step HW5.out hb)
  clear HA5 HB5 HW5 HJ5 HM5 hb
  have q7 := HA6.out.two
  go_wp2_with fail
  refine (labRank a _).mono ?_
  rintro e w7 ⟨rfl, hb⟩
  clear q7
  have HA7 := Aside.mk (HA6.out.below hb)
  have HB7 := Aside.mk (HB6.out.below hb)
  have HJ7 := Aside.mk (HJ6.out.below hb)
  have HM7 := Aside.mk (HM6.out.below hb)
  have HW7 := Aside.mk (below_step HW6.out hb)
  clear HA6 HB6 HW6 HJ6 HM6 hb
  have q8 := HA7.out.two
  go_wp2_with fail
  go_region_held3 (fun w' => w'.cell? { block := n2, off := 0 } = some (.int .i64 a.level) ∧ w'.cell? { block := n2, off := 1 } = some (.int .i64 a.cats) ∧ Aside (Bk w' n2 (lab2 a) ∧ Below w7.heap.size w7 w')) (first | exact Kp.start HA7.out | assumption)
    (first | (go_at_call 15; refine (refLabel a _).mono ?_; rintro e w' ⟨rfl, hb⟩; have hx := Kp.step (w0 := w7) (n := n2) (l := a) (by assumption) hb; clear hb))
  rename_i w8 _ _
  obtain ⟨_, _, hk⟩ := hx
  have HA8 := Aside.mk hk.out.1
  have HB8 := Aside.mk (HB7.out.below hk.out.2)
  have HJ8 := Aside.mk (HJ7.out.below hk.out.2)
  have HM8 := Aside.mk (HM7.out.below hk.out.2)
  have HW8 := Aside.mk (below_step HW7.out hk.out.2)
  clear HA7 HB7 HJ7 HM7 HW7 q8 hk
  have q8 := HA8.out.two
  by_cases ho : labErr a = 0
  · obtain ⟨a0, a1, a2, a3⟩ := lab_ok ho
    have t1 : twoErr a b = labErr b := if_pos ho
    have c1 : countV a = countL a := if_pos ho
    have c2 : rankV a = rankL a := if_pos ho
    rw [t1, c1, c2, ho]
    clear t1 c1 c2
    go_wp2_with fail
    refine (labCheck a _).mono ?_
    rw [ho]
    rintro e w9 ⟨rfl, hb⟩
    have HA9 := Aside.mk (HA8.out.below hb)
    have HB9 := Aside.mk (HB8.out.below hb)
    have HJ9 := Aside.mk (HJ8.out.below hb)
    have HM9 := Aside.mk (HM8.out.below hb)
    have HW9 := Aside.mk (below_step HW8.out hb)
    clear hb HA8 HB8 HJ8 HM8 HW8 q8
    go_wp2_with fail
    refine (labCheck ⟨4, 0⟩ _).mono ?_
    rw [lab4]
    rintro e w10 ⟨rfl, hb⟩
    have HA10 := Aside.mk (HA9.out.below hb)
    have HB10 := Aside.mk (HB9.out.below hb)
    have HJ10 := Aside.mk (HJ9.out.below hb)
    have HM10 := Aside.mk (HM9.out.below hb)
    have HW10 := Aside.mk (below_step HW9.out hb)
    have q8 := HB10.out.two
    clear hb HA9 HB9 HJ9 HM9 HW9
    have HO := Aside.mk ho
    clear ho
    go_wp2_with fail
    refine (refLabel b _).mono ?_
    rintro e w11 ⟨rfl, hb⟩
    have HA11 := Aside.mk (HA10.out.below hb)
    have HB11 := Aside.mk (HB10.out.below hb)
    have HJ11 := Aside.mk (HJ10.out.below hb)
    have HM11 := Aside.mk (HM10.out.below hb)
    have HW11 := Aside.mk (below_step HW10.out hb)
    have q9 := HA11.out.two
    clear hb HA10 HB10 HJ10 HM10 HW10 q8
    go_wp2_with fail
    go_quiet (fail)
    go_wp2_with fail
    go_loopw [17, 121] (fun c i wr => ∃ k : Nat, k ≤ 256 ∧ i = .int .i64 k ∧ c = .int .i64 (cntK a k) ∧ Aside (Below w11.heap.size w11 wr)) (fun _ i _ => 256 - (intOf i).toNat)
    case atStart => exact ⟨0, Nat.zero_le _, rfl, by simp [cntK], ⟨below_drewN (Below.refl _ _) _⟩⟩
    case round =>
      clear q9
      obtain ⟨k, hk, rfl, rfl, HW⟩ := hrel
      have q9 := (HA11.out.below HW.out).two
      by_cases hlt : k < 256
      · have HC := Aside.mk (cnt_step a k)
        obtain ⟨d0, d1⟩ := cnt_le a0 k
        have d2 : (a.level + 1) * (k : Int) ≤ 4 * k := Int.mul_le_mul_of_nonneg_right (by omega) (by omega)
        have d3 : cntK a k ≤ 1024 := by omega
        clear d1 d2
        go_wp2_with fail
        refine (partC (k : Int) a.cats (by omega) a2 _).mono ?_
        rintro e w12 ⟨rfl, hb⟩
        have HW2 := Aside.mk (below_step HW.out hb)
        clear hb q9 HW
        have q9 := (HA11.out.below HW2.out).two
        cases hp : part (k : Int) a.cats with
        | true =>
          rw [hp] at HC
          go_wp2_with fail
          refine ⟨⟨k + 1, by omega, by go_num, by rw [HC.out]; simp, HW2⟩, by simp [intOf]; omega⟩
        | false =>
          rw [hp] at HC
          go_wp2_with fail
          refine ⟨⟨k + 1, by omega, by go_num, by rw [HC.out]; simp, HW2⟩, by simp [intOf]; omega⟩
      · obtain rfl : k = 256 := by omega
        rw [cnt_end a2 a3, show ((256 : Nat) : Int) = 256 from rfl]
        clear hk hlt
        go_wp2_with fail
        go_loopw [18, 134] (fun c i wq => ∃ k : Nat, k ≤ 8 ∧ i = .int .i64 k ∧ c = .int .i64 (rankK a k) ∧ Aside (Below w11.heap.size w11 wq)) (fun _ i _ => 8 - (intOf i).toNat)
        case atStart => exact ⟨0, Nat.zero_le _, rfl, rfl, HW⟩
        case round =>
          clear q9 HW
          obtain ⟨k, hk, rfl, rfl, HW⟩ := hrel
          rename World => wq
          have q9 := (HA11.out.below HW.out).two
          by_cases hlt : k < 8
          · have HC := Aside.mk (rank_step a k)
            obtain ⟨d0, d1⟩ := rank_le a k
            go_wp2_with fail
            refine ⟨⟨k + 1, by omega, by go_num, by rw [HC.out, tm_t a2 k]; exact congrArg (Value.int IntKind.i64) (by unfold wrap64; omega), HW⟩, by simp [intOf]; omega⟩
          · obtain rfl : k = 8 := by omega
            rw [rank_end, show ((8 : Nat) : Int) = 8 from rfl]
            clear hk hlt
            have HT := Aside.mk (show twoErr a b = labErr b from if_pos HO.out)
            by_cases ht : labErr b = 0
            · obtain ⟨b0, b1, b2, b3⟩ := lab_ok ht
              have j1 : joinL a b = ⟨max a.level b.level, orK a b 8⟩ := if_pos (by rw [HT.out]; exact ht)
              have j2 : meetL a b = ⟨min a.level b.level, andK a b 8⟩ := if_pos (by rw [HT.out]; exact ht)
              rw [j1] at HJ11
              rw [j2] at HM11
              rw [show belowV a b = belW a b from by rw [belowV, HT.out, ht]; rfl, ht, j1, j2]
              have HBT := Aside.mk ht
              clear ht j1 j2 q9
              go_wp2_with fail
              go_loopw [23, 24] (fun i p wz => ∃ k : Nat, k ≤ 8 ∧ i = .int .i64 k ∧ p = .int .i64 (pw k) ∧ Aside (Bk wz wq.heap.size [.int .i64 0, .int .i64 (orK a b k)] ∧ Bk wz (wq.heap.size + 1) [.int .i64 0, .int .i64 (andK a b k)] ∧ Below wq.heap.size wq wz)) (fun i _ _ => 8 - (intOf i).toNat)
              case atStart =>
                have k1 := Bk.made wq [.int .i64 0, .int .i64 0] 29
                have k2 := Bk.made (wq.alloc (.cells #[.int .i64 0, .int .i64 0] 29)) [.int .i64 0, .int .i64 0] 29
                rw [show (wq.alloc (.cells #[.int .i64 0, .int .i64 0] 29)).heap.size = wq.heap.size + 1 from by simp] at k2
                exact ⟨0, Nat.zero_le _, rfl, rfl, ⟨k1.alloc _, k2, ((Below.refl _ _).alloc (Nat.le_refl _) _).alloc (by simp) _⟩⟩
              case round =>
                obtain ⟨k, hk, rfl, rfl, HQ⟩ := hrel
                have q9 := (HA11.out.below (below_step HW.out HQ.out.2.2)).two
                have q10 := (HB11.out.below (below_step HW.out HQ.out.2.2)).two
                have q11 := HQ.out.1.two
                have q12 := HQ.out.2.1.two
                by_cases hlt : k < 8
                · have o1 := Aside.mk (orK_step a b k)
                  have o2 := Aside.mk (andK_step a b k)
                  have o3 := Aside.mk (pw_step k)
                  obtain ⟨p1, p2⟩ := pw_le hk
                  obtain ⟨r1, r2⟩ := orK_le a b hk
                  obtain ⟨s1, s2⟩ := andK_le a b hk
                  have t1 := tm_b a2 k
                  have t2 := tm_b b2 k
                  cases hx : bit a.cats k <;> cases hy : bit b.cats k
                  all_goals
                    rw [hx, hy] at o1 o2
                    rw [hx] at t1
                    rw [hy] at t2
                    go_wp2_with fail
                    go_quiet (fail)
                    go_wp2
                    refine ⟨⟨k + 1, by omega, by go_num, by rw [o3.out], ⟨?_, ?_, ?_⟩⟩, by simp [intOf]; omega⟩
                    · rw [o1.out]
                      first
                      | exact ((HQ.out.1.drewN _).set 1 _).other (by omega) _
                      | exact (HQ.out.1.drewN _).set 1 _
                      | (show Bk _ _ [.int .i64 0, .int .i64 (orK a b k + 0)]; rw [Int.add_zero]; exact HQ.out.1.drewN _)
                    · rw [o2.out]
                      first
                      | exact ((HQ.out.2.1.drewN _).other (by omega) _).set 1 _
                      | (show Bk _ _ [.int .i64 0, .int .i64 (andK a b k + 0)]; rw [Int.add_zero]; exact (HQ.out.2.1.drewN _).other (by omega) _)
                      | (show Bk _ _ [.int .i64 0, .int .i64 (andK a b k + 0)]; rw [Int.add_zero]; exact HQ.out.2.1.drewN _)
                    · first
                      | exact ((below_drewN HQ.out.2.2 _).setCell (Nat.le_refl _) _).setCell (Nat.le_add_right _ 1) _
                      | exact (below_drewN HQ.out.2.2 _).setCell (Nat.le_refl _) _
                      | exact below_drewN HQ.out.2.2 _
                · obtain rfl : k = 8 := by omega
                  rw [show ((8 : Nat) : Int) = 8 from rfl]
                  have q13 := (HJ11.out.below (below_step HW.out HQ.out.2.2))
                  have q14 := (HM11.out.below (below_step HW.out HQ.out.2.2))
                  have hW := Aside.mk (below_step HW11.out (below_step HW.out HQ.out.2.2))
                  have m2 : n2 < wq.heap.size := (HA11.out.below HW.out).lt
                  have m3 : n3 < wq.heap.size := (HB11.out.below HW.out).lt
                  have m7 : n7 < wq.heap.size := (HJ11.out.below HW.out).lt
                  have m9 : n9 < wq.heap.size := (HM11.out.below HW.out).lt
                  have u2 : n2 ≠ wq.heap.size ∧ n2 ≠ wq.heap.size + 1 := by omega
                  have u3 : n3 ≠ wq.heap.size ∧ n3 ≠ wq.heap.size + 1 := by omega
                  have u7 : n7 ≠ wq.heap.size ∧ n7 ≠ wq.heap.size + 1 := by omega
                  have u9 : n9 ≠ wq.heap.size ∧ n9 ≠ wq.heap.size + 1 := by omega
                  have h1 : w.heap.size ≤ wq.heap.size := (below_step HW11.out HW.out).size
                  have h2 : w.heap.size ≤ wq.heap.size + 1 := by omega
                  by_cases hlv : a.level < b.level
                  · go_wp2_with fail
                    go_region
                    go_wp2_with fail
                    go_region
                    go_wp2_with fail
                    refine (refBelow a b a2 b2 _).mono ?_
                    rintro e w20 ⟨rfl, hb⟩
                    have q15 := (((((HQ.out.1.set 0 _).other (by omega) _).set 0 _).other (by omega) _).drew.drew.below hb : Bk w20 wq.heap.size [.int .i64 b.level, .int .i64 (orK a b 8)]).two
                    have q16 := (((((HQ.out.2.1.other (by omega) _).set 0 _).other (by omega) _).set 0 _).drew.drew.below hb : Bk w20 (wq.heap.size + 1) [.int .i64 a.level, .int .i64 (andK a b 8)]).two
                    have q17 := (((((q13.other (by omega) _).other (by omega) _).other (by omega) _).other (by omega) _).drew.drew.below hb).two
                    have q18 := (((((q14.other (by omega) _).other (by omega) _).other (by omega) _).other (by omega) _).drew.drew.below hb).two
                    have hW2 := Aside.mk (below_step (((((hW.out.setCell h1 _).setCell h2 _).setCell h1 _).setCell h2 _).drew.drew) hb)
                    rw [show max a.level b.level = b.level by omega] at q17
                    rw [show min a.level b.level = a.level by omega] at q18
                    clear q13 q14 q9 q10 q11 q12 hb
                    go_wp2_with fail
                    go_ret
                    exact ⟨rfl, hW2.out⟩
                  · go_wp2_with fail
                    go_region
                    go_wp2_with fail
                    refine (refBelow a b a2 b2 _).mono ?_
                    rintro e w20 ⟨rfl, hb⟩
                    have q15 := (((HQ.out.1.set 0 _).other (by omega) _).drew.below hb : Bk w20 wq.heap.size [.int .i64 a.level, .int .i64 (orK a b 8)]).two
                    have q16 := (((HQ.out.2.1.other (by omega) _).set 0 _).drew.below hb : Bk w20 (wq.heap.size + 1) [.int .i64 b.level, .int .i64 (andK a b 8)]).two
                    have q17 := (((q13.other (by omega) _).other (by omega) _).drew.below hb).two
                    have q18 := (((q14.other (by omega) _).other (by omega) _).drew.below hb).two
                    have hW2 := Aside.mk (below_step (((hW.out.setCell h1 _).setCell h2 _).drew) hb)
                    rw [show max a.level b.level = a.level by omega] at q17
                    rw [show min a.level b.level = b.level by omega] at q18
                    clear q13 q14 q9 q10 q11 q12 hb
                    go_wp2_with fail
                    go_ret
                    exact ⟨rfl, hW2.out⟩
            · have e0 : (labErr b == 0) = false := by simp [ht]
              have e1 : (labErr b != 0) = true := by simp [ht]
              have j1 : joinL a b = ⟨0, 0⟩ := if_neg (by rw [HT.out]; exact ht)
              have j2 : meetL a b = ⟨0, 0⟩ := if_neg (by rw [HT.out]; exact ht)
              rw [j1] at HJ11
              rw [j2] at HM11
              have q10 := (HJ11.out.below HW.out).two
              have q11 := (HM11.out.below HW.out).two
              rw [show belowV a b = false from by rw [belowV, HT.out, e0]; rfl, j1, j2]
              clear ht j1 j2
              go_wp2_with fail
              go_ret
              exact ⟨rfl, below_step HW11.out HW.out⟩
  · have e0 : (labErr a == 0) = false := by simp [ho]
    have e1 : (labErr a != 0) = true := by simp [ho]
    have t1 : twoErr a b = labErr a := if_neg ho
    have j1 : joinL a b = ⟨0, 0⟩ := if_neg (by rw [t1]; exact ho)
    have j2 : meetL a b = ⟨0, 0⟩ := if_neg (by rw [t1]; exact ho)
    have c1 : countV a = 0 := if_neg ho
    have c2 : rankV a = 0 := if_neg ho
    rw [j1] at HJ8
    rw [j2] at HM8
    rw [show belowV a b = false from by rw [belowV, t1, e0]; rfl, t1, j1, j2, c1, c2]
    clear t1 j1 j2 c1 c2 ho
    go_wp2_with fail
    refine (labCheck a _).mono ?_
    rintro e w9 ⟨rfl, hb⟩
    have HJ9 := Aside.mk (HJ8.out.below hb)
    have HM9 := Aside.mk (HM8.out.below hb)
    have HW9 := Aside.mk (below_step HW8.out hb)
    clear hb HJ8 HM8 HW8 q8
    go_wp2_with fail
    refine (labCheck ⟨4, 0⟩ _).mono ?_
    rw [lab4]
    rintro e w10 ⟨rfl, hb⟩
    have q9 := (HJ9.out.below hb).two
    have q10 := (HM9.out.below hb).two
    have HW10 := Aside.mk (below_step HW9.out hb)
    clear hb HJ9 HM9 HW9
    go_wp2_with fail
    go_ret
    exact ⟨rfl, HW10.out⟩
end Go.Proofs.WK
