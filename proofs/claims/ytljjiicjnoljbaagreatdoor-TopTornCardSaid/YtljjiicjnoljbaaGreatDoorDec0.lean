/-
  strconv.Itoa, as this program bears it; wyref.Dec.
  wyref.Dec: a number as text.
-/
import Derived.Lib.LaidTab
import Derived.Test.YtljjiicjnoljbaaGreatDoorTxt0
import Derived.Test.YtljjiicjnoljbaaGreatDoorDat
import Derived.Test.YtljjiicjnoljbaaGreatDoorShItoa
namespace Go.Proofs.WK
open Go.RowKit Go.Sort Rp
/-- The table of powers of ten. -/
def PowTab (w : World) : Prop := Lib.TabIs Tryz.prog w "internal/strconv.uint64pow10" .u64 Lib.pow10Tab
theorem powG : Tryz.prog.globalNamed "internal/strconv.uint64pow10" = some 3 := by kernel_rfl
theorem PowTab.lt {w : World} (h : PowTab w) : 3 < w.heap.size := World.block_lt_of_cell? w _ (Lib.TabIs.cell h powG 0 (by decide))
theorem PowTab.below {w w' : World} (h : PowTab w) (hb : Below w.heap.size w w') : PowTab w' := var?_below hb powG h.lt h
theorem grow_below (w : World) (k : Nat) (os : Array Obj) : Below w.heap.size w (grow (w.drewN k) os) :=
  ⟨rfl, rfl, rfl, by simp, fun j hj => by rw [heap_grow_old _ _ (by simpa using hj)]; rfl⟩
theorem itoaC (n : Int) (h0 : -9223372036854775808 ≤ n) (h1 : n ≤ 9223372036854775807) (w : World) (ht : PowTab w) : Calls Tryz.prog 62 #[.int .i64 n] w fun e w' => e = .returned (.string (decS n)) ∧ Below w.heap.size w w' :=
  (show Calls Tryz.prog 62 #[.int .i64 n] w _ from Any.strconv_Itoa Tryz.layItoa n h0 h1 w ht).mono fun e w' ⟨he, k, os, hw⟩ => ⟨he, hw ▸ grow_below w k os⟩
end Go.Proofs.WK
namespace Go.Proofs.WK
open Go.RowKit Rp
def tenD : ByteArray := ⟨#[48, 49, 50, 51, 52, 53, 54, 55, 56, 57]⟩
theorem ten_cut : ∀ d : Fin 10, tenD.extract d.val (d.val + 1) = ⟨#[UInt8.ofNat (48 + d.val)]⟩ := by decide
theorem dec_rec (n : Int) : decS n = if n.tdiv 10 = 0 then (if n < 0 then ⟨#[45]⟩ ++ ⟨#[dgt n]⟩ else ⟨#[dgt n]⟩) else decS (n.tdiv 10) ++ ⟨#[dgt n]⟩ := by
  unfold decS
  rw [itoa_rec]
  split
  · split
    · exact (bs_app [45] [dgt n]).symm
    · rfl
  · exact (bs_app _ [dgt n]).symm
theorem tmod_neg {n : Int} (h : n < 0) : n.tmod 10 = -((n.natAbs % 10 : Nat) : Int) := by
  obtain ⟨k, rfl⟩ : ∃ k : Nat, n = -(k : Int) := ⟨n.natAbs, by omega⟩
  rw [Int.neg_tmod, Int.natAbs_neg, Int.natAbs_natCast, Int.ofNat_tmod]
  rfl
theorem tmod_pos {n : Int} (h : ¬ n < 0) : n.tmod 10 = ((n.natAbs % 10 : Nat) : Int) := by
  obtain ⟨k, rfl⟩ : ∃ k : Nat, n = (k : Int) := ⟨n.natAbs, by omega⟩
  rw [Int.natAbs_natCast, Int.ofNat_tmod]
  rfl
theorem tdiv_abs (n : Int) : (n.tdiv 10).natAbs = n.natAbs / 10 := by rw [Int.natAbs_tdiv]; rfl
set_option maxRecDepth 100000 in
set_option maxHeartbeats 1000000 in
theorem refDec (m : Nat) : ∀ (n : Int) (w : World), n.natAbs ≤ m → -9223372036854775808 ≤ n → n ≤ 9223372036854775807 → Calls Tryz.prog 19 #[.int .i64 n] w fun e w' => e = .returned (.string (decS n)) ∧ w = w' := by
  induction m using Nat.strongRecOn with
  | ind m ih =>
    intro n w hm h0 h1
    have HE := Aside.mk (dec_rec n)
    have hd : n.natAbs % 10 < 10 := Nat.mod_lt _ (by decide)
    obtain ⟨d, hdd⟩ : ∃ d : Nat, d = n.natAbs % 10 := ⟨_, rfl⟩
    have HD : Aside ((⟨#[dgt n]⟩ : ByteArray) = tenD.extract d (d + 1)) := ⟨by rw [hdd, ten_cut ⟨n.natAbs % 10, hd⟩]; rfl⟩
    have d0 : (0 : Int) ≤ (d : Int) := by omega
    have d1 : (d : Int) ≤ 9 := by omega
    have hta := tdiv_abs n
    by_cases hq : n.tdiv 10 = 0
    · have g2 : (n.tdiv 10 == 0) = true := beq_iff_eq.2 hq
      by_cases hn : n < 0
      · have g1 : decide (n < 0) = true := decide_eq_true hn
        have e1 : IntKind.i64.wrap (-(n.tmod 10)) = (d : Int) := by rw [tmod_neg hn, IntKind.wrap_i64]; omega
        have HR : Aside (decS n = ⟨#[45]⟩ ++ tenD.extract d (d + 1)) := ⟨by rw [HE.out, if_pos hq, if_pos hn, HD.out]⟩
        clear ih hm hd hdd hta
        go_enter Tryz.func19, Tryz.ntmps19
        go_wp2_with fail
        go_ret
        exact ⟨by rw [HR.out]; rfl, rfl⟩
      · have g1 : decide (n < 0) = false := decide_eq_false hn
        have e1 : n.tmod 10 = (d : Int) := by rw [tmod_pos hn]; omega
        have HR : Aside (decS n = tenD.extract d (d + 1)) := ⟨by rw [HE.out, if_pos hq, if_neg hn, HD.out]⟩
        clear ih hm hd hdd hta
        go_enter Tryz.func19, Tryz.ntmps19
        go_wp2_with fail
        go_ret
        exact ⟨by rw [HR.out]; rfl, rfl⟩
    · have g2 : (n.tdiv 10 == 0) = false := beq_eq_false_iff_ne.2 hq
      have g3 : (n.tdiv 10 != 0) = true := by rw [bne, g2]; rfl
      have HI := Aside.mk (ih (n.natAbs / 10) (by omega) (n.tdiv 10) w (by omega) (by omega) (by omega))
      have HR : Aside (decS n = decS (n.tdiv 10) ++ tenD.extract d (d + 1)) := ⟨by rw [HE.out, if_neg hq, HD.out]⟩
      have hsz := decS_len (n := n.tdiv 10) (by omega) (by omega)
      by_cases hn : n < 0
      · have g1 : decide (n < 0) = true := decide_eq_true hn
        have e1 : IntKind.i64.wrap (-(n.tmod 10)) = (d : Int) := by rw [tmod_neg hn, IntKind.wrap_i64]; omega
        clear ih hm hd hdd hta hq
        go_enter Tryz.func19, Tryz.ntmps19
        go_wp2_with fail
        refine HI.out.mono ?_
        rintro e w' ⟨rfl, rfl⟩
        go_wp2_with fail
        go_ret
        exact ⟨by rw [HR.out]; rfl, rfl⟩
      · have g1 : decide (n < 0) = false := decide_eq_false hn
        have e1 : n.tmod 10 = (d : Int) := by rw [tmod_pos hn]; omega
        have hdv : n.tdiv 10 = n / 10 := Int.tdiv_eq_ediv_of_nonneg (by omega)
        rw [hdv] at HI HR hsz g2 g3
        clear hdv
        clear ih hm hd hdd hta hq
        go_enter Tryz.func19, Tryz.ntmps19
        go_wp2_with fail
        refine HI.out.mono ?_
        rintro e w' ⟨rfl, rfl⟩
        go_wp2_with fail
        go_ret
        exact ⟨by rw [HR.out]; rfl, rfl⟩
theorem decC (n : Int) (h0 : -9223372036854775808 ≤ n) (h1 : n ≤ 9223372036854775807) (w : World) : Calls Tryz.prog 19 #[.int .i64 n] w fun e w' => e = .returned (.string (decS n)) ∧ w = w' := refDec n.natAbs n w (Nat.le_refl _) h0 h1
end Go.Proofs.WK
