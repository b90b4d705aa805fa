/-
  The law TopHides, walked: it returns true.
-/
import Derived.Test.YtljjiicjnoljbaaTopT
import Derived.Test.YtljjiicjnoljbaaStoK
namespace Go.Proofs.WK
open Go.RowKit Rp
/-- What stands at a place of a list of what is said. -/
theorem op_at {w : World} {ok : Nat → Prop} {A : Option Addr} {xs : List OpV} (h : opRp.Row w ok A xs) {k : Nat} (hk : k < xs.length) : ∃ ad B1 e1 B2 e2 B3 e3, A = some ad ∧ ad.block < w.heap.size ∧ ok ad.block ∧
    (w.cell? (ad.add (k * 12)) = some (.int .i64 xs[k].kind) ∧ w.cell? ⟨(ad.add (k * 12)).block, (ad.add (k * 12)).off + 1, none⟩ = some (.int .i64 xs[k].who.role) ∧ w.cell? ⟨(ad.add (k * 12)).block, (ad.add (k * 12)).off + 2, none⟩ = some (.int .i64 xs[k].who.why) ∧
    w.cell? ⟨(ad.add (k * 12)).block, (ad.add (k * 12)).off + 3, none⟩ = some (.int .i64 xs[k].who.time) ∧ w.cell? ⟨(ad.add (k * 12)).block, (ad.add (k * 12)).off + 4, none⟩ = some (.slice B1 xs[k].rules.length e1) ∧
    w.cell? ⟨(ad.add (k * 12)).block, (ad.add (k * 12)).off + 5, none⟩ = some (.string xs[k].r.id) ∧ w.cell? ⟨(ad.add (k * 12)).block, (ad.add (k * 12)).off + 6, none⟩ = some (.int .i64 xs[k].r.cats) ∧
    w.cell? ⟨(ad.add (k * 12)).block, (ad.add (k * 12)).off + 7, none⟩ = some (.slice B2 xs[k].r.fields.length e2) ∧ w.cell? ⟨(ad.add (k * 12)).block, (ad.add (k * 12)).off + 8, none⟩ = some (.slice B3 xs[k].r.refs.length e3) ∧
    w.cell? ⟨(ad.add (k * 12)).block, (ad.add (k * 12)).off + 9, none⟩ = some (.string xs[k].id) ∧ w.cell? ⟨(ad.add (k * 12)).block, (ad.add (k * 12)).off + 10, none⟩ = some (.string xs[k].f.key) ∧ w.cell? ⟨(ad.add (k * 12)).block, (ad.add (k * 12)).off + 11, none⟩ = some (.string xs[k].f.val)) ∧
    Aside (rulR.Row w ok B1 xs[k].rules ∧ fldR.Row w ok B2 xs[k].r.fields ∧ xs[k].r.fields.length ≤ e2 ∧ str.Row w ok B3 xs[k].r.refs ∧ xs[k].r.refs.length ≤ e3) := by
  obtain ⟨ad, c, e, hb, ho, hK, hc0⟩ := h.at_ hk
  have hc : ∀ i u, c[i]? = some u → w.cell? (ad.add (k * 12 + i)) = some u := hc0
  obtain ⟨_, _, _, rfl, ⟨B1, e1, rfl, l1, r1⟩, ⟨B2, e2, rfl, l2, r2⟩, ⟨B3, e3, rfl, l3, r3⟩⟩ := hK
  refine ⟨ad, B1, e1, B2, e2, B3, e3, e, hb, ho, ⟨hc 0 _ rfl, ?_, ?_, ?_, ?_, ?_, ?_, ?_, ?_, ?_, ?_, ?_⟩, ⟨r1, r2, l2, r3, l3⟩⟩
  · rw [← add_field _ _ 1 (by omega)]; exact hc 1 _ rfl
  · rw [← add_field _ _ 2 (by omega)]; exact hc 2 _ rfl
  · rw [← add_field _ _ 3 (by omega)]; exact hc 3 _ rfl
  · rw [← add_field _ _ 4 (by omega)]; exact hc 4 _ rfl
  · rw [← add_field _ _ 5 (by omega)]; exact hc 5 _ rfl
  · rw [← add_field _ _ 6 (by omega)]; exact hc 6 _ rfl
  · rw [← add_field _ _ 7 (by omega)]; exact hc 7 _ rfl
  · rw [← add_field _ _ 8 (by omega)]; exact hc 8 _ rfl
  · rw [← add_field _ _ 9 (by omega)]; exact hc 9 _ rfl
  · rw [← add_field _ _ 10 (by omega)]; exact hc 10 _ rfl
  · rw [← add_field _ _ 11 (by omega)]; exact hc 11 _ rfl
theorem OpIs.made {w : World} {X : Nat → Prop} {o : OpV} {B1 B2 B3 : Option Addr} {e1 e2 e3 : Nat} (h : rulR.Row w X B1 o.rules ∧ fldR.Row w X B2 o.r.fields ∧ o.r.fields.length ≤ e2 ∧ str.Row w X B3 o.r.refs ∧ o.r.refs.length ≤ e3) :
    OpIs (w.alloc (.cells (opC o B1 e1 B2 e2 B3 e3).toArray 62)) X w.heap.size o B1 e1 B2 e2 B3 e3 :=
  ⟨Bk.made w _ _, h.1.below ((Below.refl _ _).alloc (Nat.le_refl _) _), h.2.1.below ((Below.refl _ _).alloc (Nat.le_refl _) _), h.2.2.2.1.below ((Below.refl _ _).alloc (Nat.le_refl _) _), h.2.2.1, h.2.2.2.2⟩
theorem OpIs.cells {w : World} {X : Nat → Prop} {n : Nat} {o : OpV} {B1 B2 B3 : Option Addr} {e1 e2 e3 : Nat} (h : OpIs w X n o B1 e1 B2 e2 B3 e3) : Bk w n [.int .i64 o.kind, .int .i64 o.who.role, .int .i64 o.who.why, .int .i64 o.who.time, .slice B1 o.rules.length e1, .string o.r.id, .int .i64 o.r.cats, .slice B2 o.r.fields.length e2, .slice B3 o.r.refs.length e3, .string o.id, .string o.f.key, .string o.f.val] := h.bk
theorem up3Row (w : World) : int.Row (w.alloc (.cells #[.int .i64 0, .int .i64 1, .int .i64 2] 3)) (fun _ => True) (some ⟨w.heap.size, 0, none⟩) up3 :=
  (Own.lit int 3 w 0 (fun _ => False) (Nat.zero_le _) (reps_int w _ up3) (by decide)).row.2.2.mono fun _ _ _ => trivial
theorem ToldV.form {w : World} {X : Nat → Prop} {v : Value} {t : Told} (h : ToldV w X v t) : ∃ X1 d1 Y1 f1, v = .agg #[.int .i64 t.code, .slice X1 t.vers.length d1, .slice Y1 t.ids.length f1, .slice none 0 0] ∧ Aside (verR.Sl w X (.slice X1 t.vers.length d1) t.vers ∧ str.Sl w X (.slice Y1 t.ids.length f1) t.ids) := by
  obtain ⟨v1, v2, rfl, h1, h2⟩ := h
  obtain ⟨X1, d1, rfl⟩ := Sl.form h1
  obtain ⟨Y1, f1, rfl⟩ := Sl.form h2
  exact ⟨_, _, _, _, rfl, ⟨h1, h2⟩⟩
theorem ToldB.form {w : World} {X : Nat → Prop} {n : Nat} {t : Told} (h : ToldB w X n t) : ∃ X1 d1 Y1 f1, Bk w n [.int .i64 t.code, .slice X1 t.vers.length d1, .slice Y1 t.ids.length f1, .slice none 0 0] ∧ Aside (verR.Row w X X1 t.vers ∧ str.Row w X Y1 t.ids) := by
  obtain ⟨v1, v2, h0, ⟨X1, d1, rfl, _, h1⟩, ⟨Y1, f1, rfl, _, h2⟩⟩ := h
  exact ⟨_, _, _, _, h0, ⟨h1, h2⟩⟩
abbrev Kw (w : World) (n : Nat) (q : Who) : Prop := w.cell? ⟨n, 1, none⟩ = some (.int .i64 q.role) ∧ w.cell? ⟨n, 2, none⟩ = some (.int .i64 q.why) ∧ w.cell? ⟨n, 3, none⟩ = some (.int .i64 q.time)
theorem Kw.step {w w' : World} {n : Nat} {q : Who} (h : Kw w n q) (hb : Below w.heap.size w w') : Kw w' n q := ⟨cell_below hb h.1, cell_below hb h.2.1, cell_below hb h.2.2⟩
theorem seesV_255 (up : List Int) (l : List Rul) (q : Who) : seesV up l q < 256 := by
  unfold seesV
  split
  · have h := sumN_lt 8 (seesB up l q)
    exact h
  · omega
set_option maxHeartbeats 16000000 in
set_option maxRecDepth 100000 in
theorem topHidesL (A1 : Option Addr) (c1 : Nat) (L0 : List (List Int)) (A2 : Option Addr) (c2 : Nat) (M0 : List (List Int)) (sees : Int) (ok1 ok2 : Nat → Prop) (w : World) (hr1 : (Rp.slice int).Row w ok1 A1 L0) (hc1 : L0.length ≤ c1) (hr2 : (Rp.slice int).Row w ok2 A2 M0) (hc2 : M0.length ≤ c2) :
    Calls Try.prog 6 #[.slice A1 L0.length c1, .slice A2 M0.length c2, .int .i64 sees] w fun e w' => e = .returned (.bool true) ∧ Below w.heap.size w w' := by
  have HR1 := Aside.mk (And.intro hr1 hc1)
  have HR2 := Aside.mk (And.intro hr2 hc2)
  have HB0 : Aside (Below w.heap.size w (w.alloc (.cells #[.int .i64 sees] 3))) := ⟨(Below.refl _ _).alloc (Nat.le_refl _) _⟩
  have HP0 : Aside (Bk (w.alloc (.cells #[.int .i64 sees] 3)) w.heap.size [.int .i64 sees]) := ⟨Bk.made w _ _⟩
  have hs7 : 0 ≤ bits .and .i64 sees 7 ∧ bits .and .i64 sees 7 < 8 := by rw [and7]; omega
  have HS7 := Aside.mk hs7
  clear hr1 hc1 hr2 hc2 hs7
  go_enter Try.func6, Try.ntmps6
  go_wp2_with fail
  refine (topBegun _).mono ?_
  rintro e w1 ⟨rfl, hb⟩
  have HB1 := Aside.mk (below_step HB0.out hb)
  have HP1 := Aside.mk (HP0.out.below hb)
  clear hb
  go_wp2_with fail
  refine (topBegan _).mono ?_
  rintro e w2 ⟨ga, hga, rfl, hsa, hb⟩
  have HB2 := Aside.mk (below_step HB1.out hb)
  have HP2 := Aside.mk (HP1.out.below hb)
  have HSA := Aside.mk (And.intro (hsa.more (F' := fun k => w1.heap.size ≤ k ∧ k ≠ ga ∧ k < w2.heap.size) fun k h1 h2 => ⟨h1.1, h1.2, h2⟩) hga)
  clear hb hsa hga
  go_wp2_with fail
  refine (topBegan _).mono ?_
  rintro e w3 ⟨gb, hgb, rfl, hsb, hb⟩
  have HB3 := Aside.mk (below_step HB2.out hb)
  have HP3 := Aside.mk (HP2.out.below hb)
  have hgab : ga < gb := Nat.lt_of_lt_of_le HSA.out.1.lt hgb
  have hpga : w.heap.size < ga := Nat.lt_of_lt_of_le HP1.out.lt HSA.out.2
  have HG := Aside.mk (And.intro hgab hpga)
  have HSA3 := Aside.mk (HSA.out.1.below hb)
  have HSB3 := Aside.mk (And.intro hsb hgb)
  have q := HP3.out.cell 0
  have q' := HP3.out.frozen
  clear hb hsb hgb hgab hpga
  obtain ⟨s, hs⟩ : ∃ s, bits .and .i64 sees 7 = s := ⟨_, rfl⟩
  rw [hs] at HS7
  have HES := Aside.mk hs
  have hB4 : Below w.heap.size w (w3.setCell ⟨w.heap.size, 0, none⟩ (.int .i64 (bits .and .i64 sees 7))) := below_set HB3.out (Nat.le_refl _) _
  have HB4 := Aside.mk hB4
  have hst : St w (w3.setCell ⟨w.heap.size, 0, none⟩ (.int .i64 (bits .and .i64 sees 7))) (Xn ga gb ga ga) ga gb w.heap.size s none none [] [] srv0 srv0 := by
    have hG := HG.out
    have hA := HSA.out.2
    have hA2 := HSA.out.1.lt
    have hBb := HSB3.out.2
    have hp := HP1.out.lt
    have mv : ∀ k, k ≠ w.heap.size → (w3.setCell ⟨w.heap.size, 0, none⟩ (.int .i64 (bits .and .i64 sees 7))).heap[k]? = w3.heap[k]? := fun k hk => Below.heap_setCell _ _ _ k hk
    have sa := (HSA3.out.move (mv ga (by omega)) fun k hk _ => mv k (by omega)).more (F' := Xn ga gb ga ga) fun k hk _ => ⟨hk.2.1, by omega, hk.2.1, hk.2.1⟩
    have sb := (HSB3.out.1.move (mv gb (by omega)) fun k hk _ => mv k (by omega)).more (F' := Xn ga gb ga ga) fun k hk _ => ⟨by omega, hk.2, by omega, by omega⟩
    have bx := HP3.out.set 0 (.int .i64 (bits .and .i64 sees 7))
    exact ⟨sa, sb, Row.nil, Row.nil, by rw [hs] at bx ⊢; exact bx, hB4⟩
  have HST4 := Aside.mk hst
  clear hst hB4 hs
  go_wp2_with fail
  refine (topOps A2 c2 M0 _ _ (HR2.out.1.below HB4.out) HR2.out.2).mono ?_
  rintro e w5 ⟨vm, rfl, ⟨AM, cm, rfl, hcm, rm⟩, hb⟩
  have HM5 := Aside.mk (rm.mono (ok' := Xn ga gb ga ga) fun k hk _ => by
    have h1 := HST4.out.sa.lt
    have h2 := HST4.out.sb.lt
    exact ⟨by omega, by omega, by omega, by omega⟩)
  have HST5 := Aside.mk (HST4.out.below hb)
  have HB5 := Aside.mk (below_step HB4.out hb)
  have HCM := Aside.mk hcm
  clear rm hb hcm q q'
  go_wp2_with fail
  refine (topOps A1 c1 L0 _ _ (HR1.out.1.below HB5.out) HR1.out.2).mono ?_
  rintro e w6 ⟨vl, rfl, ⟨AL, cl, rfl, hcl, rl⟩, hb⟩
  have HL6 := rl.mono (ok' := Xn ga gb ga ga) fun k hk _ => by
    have h1 := HST5.out.sa.lt
    have h2 := HST5.out.sb.lt
    exact ⟨by omega, by omega, by omega, by omega⟩
  have h5 := HST5.out.below hb
  have HST6 : Aside (St w w6 (Xn ga gb ga ga) ga gb w.heap.size s AL AM (opsV L0) (opsV M0) srv0 srv0) := ⟨⟨h5.sa, h5.sb, HL6, HM5.out.below hb, h5.box, h5.bel⟩⟩
  have HOL : Aside (∀ o ∈ opsV L0, OpOk o) := ⟨ops_ok⟩
  have HOM : Aside (∀ o ∈ opsV M0, OpOk o) := ⟨ops_ok⟩
  have HCL := Aside.mk hcl
  have HLE : Aside ((opsV L0).length ≤ 25 ∧ (opsV M0).length ≤ 25) := ⟨opsV_len _, opsV_len _⟩
  clear rl HL6 h5 hb hcl
  generalize opsV L0 = L at *
  generalize opsV M0 = M at *
  clear HB0 HP0 HB1 HP1 HB2 HP2 HB3 HP3 HSA HSA3 HSB3 HB4 HST4 HM5 HST5 HB5 HR1 HR2
  go_wp2_with fail
  go_loopw [47] (fun i wr => ∃ (k : Nat) (a b : Srv), k ≤ L.length ∧ i = .int .i64 k ∧ Aside (St w wr (Xn ga gb ga ga) ga gb w.heap.size s AL AM L M a b) ∧ Aside (Two s a b)) (fun i _ => L.length - (intOf i).toNat)
  case atStart => exact ⟨0, srv0, srv0, Nat.zero_le _, rfl, HST6, ⟨two0 s⟩⟩
  case round =>
    obtain ⟨k, a, b, hk, rfl, HS, HT⟩ := hrel
    have hle := HLE.out
    by_cases hlt : k < L.length
    · have p0 : (0 : Int) ≤ (k : Int) := by omega
      have p1 : (k : Int) < (L.length : Int) := by omega
      obtain ⟨ad, B1, e1, B2, e2, B3, e3, rfl, hbl, _, qo, HK⟩ := op_at HS.out.r1 hlt
      have HO := HOL.out L[k] (List.getElem_mem hlt)
      have HOK := Aside.mk HO
      obtain ⟨o, ho⟩ : ∃ o, L[k] = o := ⟨_, rfl⟩
      rw [ho] at qo HK HOK
      clear HO
      have hop := OpIs.made (e1 := e1) HK.out
      have HS1 := Aside.mk (HS.out.below (w' := wr.alloc (.cells (opC o B1 e1 B2 e2 B3 e3).toArray 62)) ((Below.refl _ _).alloc (Nat.le_refl _) _))
      have HOP := Aside.mk hop
      clear hop
      unfold opC at HOP HS1
      go_upto_region 13 with fail
      generalize hW1 : wr.alloc (.cells #[.int .i64 o.kind, .int .i64 o.who.role, .int .i64 o.who.why, .int .i64 o.who.time, .slice B1 o.rules.length e1, .string o.r.id, .int .i64 o.r.cats, .slice B2 o.r.fields.length e2, .slice B3 o.r.refs.length e3, .string o.id, .string o.f.key, .string o.f.val] 62) = W1 at *
      have HN : Aside (ga < wr.heap.size ∧ gb < wr.heap.size ∧ w.heap.size < wr.heap.size) := ⟨HS.out.sa.lt, HS.out.sb.lt, HS.out.box.lt⟩
      generalize hn : wr.heap.size = n at *
      clear qo HK hbl hW1
      go_cut [63] (fun c wx => ∃ h : Bool, c = .bool h ∧ Aside ((h = true → ∃ hm : k < M.length, hides s M[k] = true) ∧ Below W1.heap.size W1 wx))
      case first =>
        by_cases hm : k < M.length
        · have m1 : (k : Int) < (M.length : Int) := by omega
          obtain ⟨am, C1, d1, C2, d2, C3, d3, rfl, _, _, qm, HKM⟩ := op_at HS1.out.r2 hm
          go_wp2_with fail
          refine (topHid (o := M[k]) (HOM.out _ (List.getElem_mem hm)) HS7.out HS1.out.box).mono ?_
          rintro e wx ⟨rfl, hb⟩
          have HBX := Aside.mk hb
          clear hb
          go_wp2_with fail
          go_meet
          exact ⟨_, rfl, ⟨fun h => ⟨hm, h⟩, HBX.out⟩⟩
        · have m1 : decide ((k : Int) < (M.length : Int)) = false := by simp; omega
          go_wp2_with fail
          go_meet
          exact ⟨false, rfl, ⟨⟨(fun h => by cases h), Below.refl _ _⟩⟩⟩
      case rest =>
        obtain ⟨h, rfl, HH⟩ := hcut
        have HS2 := Aside.mk (HS1.out.below HH.out.2)
        have HOP2 := Aside.mk (HOP.out.below HH.out.2)
        clear HS1 HOP
        go_upto_if 63 with fail
        go_cut [] (fun wx => ∃ b' : Srv, Aside (St w wx (Xn ga gb ga ga) ga gb w.heap.size s (some ad) AM L M a b') ∧ Aside (OpIs wx (Xn ga gb ga ga) n o B1 e1 B2 e2 B3 e3) ∧ Aside (Two s a b'))
        case first =>
          cases h with
          | false =>
            go_wp2_with fail
            go_meet
            exact ⟨b, HS2, HOP2, HT⟩
          | true =>
            obtain ⟨hm, hh⟩ := HH.out.1 rfl
            have m1 : (k : Int) < (M.length : Int) := by omega
            have hOM := HOM.out _ (List.getElem_mem hm)
            have HOMK := Aside.mk hOM
            have HHM := Aside.mk hh
            obtain ⟨am, C1, d1, C2, d2, C3, d3, rfl, _, _, qm, HKM⟩ := op_at HS2.out.r2 hm
            clear hOM hh
            go_wp2_with fail
            refine (doAll gb _ b M[k] HOMK.out.kind C1 d1 C2 d2 C3 d3 _ _ _ _ HS2.out.sb (fun k hk => hk.2.1) HKM.out.1 HKM.out.2.1 HKM.out.2.2.1 HKM.out.2.2.2.1 HKM.out.2.2.2.2).mono ?_
            rintro e wx ⟨v1, v2, rfl, _, _, hs, hg⟩
            have hG := HG.out
            have hN := HN.out
            have HS3 := Aside.mk (HS2.out.doB (fun k hk => hk.2.1) (by omega) (by omega) (by omega) hg hs fun k hk => by
              have h1 := HS2.out.sa.lt
              have h2 := HS2.out.sb.lt
              exact ⟨by omega, by omega, by omega, by omega⟩)
            have HOP3 := Aside.mk (HOP2.out.grown (fun k hk => hk.2.1) (by omega) hg)
            have HT3 := Aside.mk (HT.out.hid2 HHM.out HOMK.out)
            clear hs hg
            go_wp2_with fail
            go_meet
            exact ⟨_, HS3, HOP3, HT3⟩
        case rest =>
          obtain ⟨b', HS3, HOP3, HT3⟩ := hcut
          clear HS2 HOP2 HH HT
          have q := HOP3.out.cells.twelve
          cases hid : hides s o with
          | true =>
            have HID := Aside.mk hid
            clear hid
            go_wp2_with fail
            refine (topHid (o := o) HOK.out HS7.out HS3.out.box).mono ?_
            rw [HID.out]
            rintro e w4 ⟨rfl, hb⟩
            have HS4 := Aside.mk (HS3.out.below hb)
            have HOP4 := Aside.mk (HOP3.out.below hb)
            clear hb q
            have q := HOP4.out.cells.twelve
            go_wp2_with fail
            refine (doOf ga _ a HOK.out HS4.out.sa (fun k hk => hk.1) HOP4.out).mono ?_
            rintro e w5 ⟨v5, rfl, ⟨v51, v52, rfl, _, _⟩, hs, hg⟩
            have hG := HG.out
            have HS5 := Aside.mk (HS4.out.doA (fun k hk => hk.1) (by omega) (by omega) (by omega) hg hs fun k hk => by
              have h1 := HS4.out.sa.lt
              have h2 := HS4.out.sb.lt
              exact ⟨by omega, by omega, by omega, by omega⟩)
            have HT5 := Aside.mk (HT3.out.hid HID.out HOK.out)
            clear hs hg q
            go_wp2_with fail
            refine ⟨⟨k + 1, _, _, by omega, by go_num, HS5, HT5⟩, by simp [intOf]; omega⟩
          | false =>
            have HID := Aside.mk hid
            clear hid
            go_wp2_with fail
            refine (topHid (o := o) HOK.out HS7.out HS3.out.box).mono ?_
            rw [HID.out]
            rintro e w4 ⟨rfl, hb⟩
            have HS4 := Aside.mk (HS3.out.below hb)
            have HOP4 := Aside.mk (HOP3.out.below hb)
            clear hb q
            have q := HOP4.out.cells.twelve
            go_upto_region 17 with fail
            have hse : seesErr up3 a.rules o.who = 0 := sees3 HT3.out.rules HOK.out.who HOK.out.role
            have HSE := Aside.mk hse
            have hup := HT3.out.up
            have HUP := Aside.mk hup
            have HRL : Aside (a.rules.length * 48 ≤ 140737488355328) := ⟨by have := (rules_ok HT3.out.rules).1; omega⟩
            have HKW : Aside (Kw w4 n o.who) := ⟨q.2.1, q.2.2.1, q.2.2.2.1⟩
            clear hse hup q
            go_cut [15, 16] (fun x y wx => x = .int .i64 (seesV up3 a.rules o.who) ∧ y = .int .i64 0 ∧ Aside (Below w4.heap.size w4 wx))
            case first =>
              go_region_held3 (fun w' => w'.cell? ⟨n, 1, none⟩ = some (.int .i64 o.who.role) ∧ w'.cell? ⟨n, 2, none⟩ = some (.int .i64 o.who.why) ∧ w'.cell? ⟨n, 3, none⟩ = some (.int .i64 o.who.time))
                (first
                 | exact HKW.out
                 | assumption
                 | exact Kw.step HKW.out (below_drewN (Below.alloc (Below.refl _ w4) (Nat.le_refl _) (.cells #[.int .i64 0, .int .i64 1, .int .i64 2] 3)) 1)
                 | exact Kw.step (by assumption) (Below.alloc (Below.refl _ w5) (Nat.le_refl _) (.cells #[.int .i64 0, .int .i64 1, .int .i64 2] 3)))
                (first
                 | (go_at_call 34
                    refine (serverRules ga _ a _ ((HS4.out.sa.below (Below.alloc (Below.refl _ w4) (Nat.le_refl _) (.cells #[.int .i64 0, .int .i64 1, .int .i64 2] 3))).below (below_drewN (Below.refl _ _) 1)) HRL.out).mono ?_
                    rintro e w5 ⟨v5, rfl, ho, hb⟩
                    have hb5 := below_step (below_drewN (Below.alloc (Below.refl _ w4) (Nat.le_refl _) (.cells #[.int .i64 0, .int .i64 1, .int .i64 2] 3)) 1) hb
                    have hx := Kw.step HKW.out hb5
                    have HB5 := Aside.mk hb5
                    have HU5 := Aside.mk ((up3Row w4).below (below_step (below_drewN (Below.refl _ _) 1) hb))
                    have HR5 := Aside.mk ho
                    obtain ⟨X5, d5, rfl⟩ := Sl.form ho.sl
                    clear ho hb hb5)
                 | (go_at_call 34
                    refine (serverRules ga _ a _ (HS4.out.sa.below (below_drewN (Below.refl _ _) 1)) HRL.out).mono ?_
                    rintro e w5 ⟨v5, rfl, ho, hb⟩
                    have hb5 := below_step (below_drewN (Below.refl _ w4) 1) hb
                    have hx := Kw.step HKW.out hb5
                    have HB5 := Aside.mk hb5
                    have HU5 := Aside.mk (up3Row w5)
                    have HR5 := Aside.mk ho
                    obtain ⟨X5, d5, rfl⟩ := Sl.form ho.sl
                    clear ho hb hb5)
                 | (go_at_call 19
                    refine (ruleSees _ _ up3 _ _ a.rules o.who _ _ _ HU5.out HU5.out.1 HR5.out.row.2.2 HR5.out.row.2.2.1).mono ?_
                    rw [HSE.out]
                    rintro e w6 ⟨rfl, hb⟩
                    have HB6 := Aside.mk (below_step HB5.out hb)
                    have hx6 := Kw.step (by assumption) hb
                    clear hb)
                 | (go_at_call 19
                    refine (ruleSees _ _ up3 _ _ a.rules o.who _ _ _ HU5.out HU5.out.1 (HR5.out.row.2.2.below ((Below.refl _ _).alloc (Nat.le_refl _) _)) HR5.out.row.2.2.1).mono ?_
                    rw [HSE.out]
                    rintro e w6 ⟨rfl, hb⟩
                    have HB6 := Aside.mk (below_step (HB5.out.alloc HB5.out.size (.cells #[.int .i64 0, .int .i64 1, .int .i64 2] 3)) hb)
                    have hx6 := Kw.step (by assumption) hb
                    clear hb))
              all_goals
                go_wp2_with fail
                go_meet
                exact ⟨rfl, rfl, HB6⟩
            case rest =>
              obtain ⟨rfl, rfl, HB6⟩ := hcut
              have HS6 := Aside.mk (HS4.out.below HB6.out)
              have HOP6 := Aside.mk (HOP4.out.below HB6.out)
              go_upto_region 20 with fail
              go_cut [17, 18] (fun x y wx => ∃ n17 n18, x = .pointer (some ⟨n17, 0, none⟩) ∧ y = .pointer (some ⟨n18, 0, none⟩) ∧ Aside (ToldB wx (Xn ga gb n17 n18) n17 (doS a o).2 ∧ ToldB wx (Xn ga gb n17 n18) n18 (doS b' o).2 ∧ St w wx (Xn ga gb n17 n18) ga gb w.heap.size s (some ad) AM L M (doS a o).1 (doS b' o).1 ∧ OpIs wx (Xn ga gb n17 n18) n o B1 e1 B2 e2 B3 e3))
              case first =>
                generalize hA : Act.mk _ _ = A
                refine region_facts (J20 A w ga gb w.heap.size n s (some ad) AM L M a b' o B1 e1 B2 e2 B3 e3) (by kernel_rfl) (by kernel_rfl) ?_ ?_ ?_
                · subst hA
                  simp only [J20, put20, Act.put, List.setIfInBounds_toArray, List.set_cons_zero, List.set_cons_succ]
                  refine ⟨_, _, _, _, _, _, _, _, rfl, ga, ga, R20.init (fun j hj => ?_) (HS6.out.below (below_drewN (Below.refl _ _) 1)) (HOP6.out.below (below_drewN (Below.refl _ _) 1))⟩
                  rw [Array.getElem?_replicate] at hj
                  split at hj <;> simp at hj
                · intro i oo Z act wz hoo hsz hZi haft hJ K' hK
                  obtain ⟨u87, u88, u89, u90, u91, u92, u17, u18, rfl, n17, n18, hR⟩ := hJ
                  have hi := (Array.getElem?_eq_some_iff.1 hoo).1
                  subst hA
                  rcases i with _ | i
                  · simp only [List.getElem?_toArray, List.getElem?_cons_succ, List.getElem?_cons_zero, Option.some.injEq] at hoo
                    subst hoo
                    rw [if_pos (by rfl)]
                    clear hsz hi
                    have HK' := Aside.mk hK
                    have HR' := Aside.mk hR
                    clear hK haft hR
                    simp only [put20, Act.put, List.setIfInBounds_toArray, List.set_cons_zero, List.set_cons_succ]
                    go_simp
                    refine HK'.out _ _ ?_
                    simp only [J20, put20, Act.put, List.setIfInBounds_toArray, List.set_cons_zero, List.set_cons_succ]
                    refine ⟨_, u88, u89, u90, u91, u92, u17, u18, rfl, n17, n18, HR'.out.set0 rfl⟩
                  rcases i with _ | i
                  · simp only [List.getElem?_toArray, List.getElem?_cons_succ, List.getElem?_cons_zero, Option.some.injEq] at hoo
                    subst hoo
                    rw [if_pos (by rfl)]
                    clear hsz hi
                    have q := hR.op.cells.twelve
                    have HK' := Aside.mk hK
                    have HR' := Aside.mk hR
                    clear hK haft hR
                    simp only [put20, Act.put, List.setIfInBounds_toArray, List.set_cons_zero, List.set_cons_succ]
                    go_simp
                    refine HK'.out _ _ ?_
                    simp only [J20, put20, Act.put, List.setIfInBounds_toArray, List.set_cons_zero, List.set_cons_succ]
                    refine ⟨u87, _, u89, u90, u91, u92, u17, u18, rfl, n17, n18, HR'.out.set1 rfl⟩
                  rcases i with _ | i
                  · simp only [List.getElem?_toArray, List.getElem?_cons_succ, List.getElem?_cons_zero, Option.some.injEq] at hoo
                    subst hoo
                    rw [if_pos (by rfl)]
                    clear hsz hi
                    obtain rfl := hR.f0 (haft { on := 0, ground := .data } (by simp) rfl)
                    obtain rfl := hR.f1 (haft { on := 1, ground := .data } (by simp) rfl)
                    have HK' := Aside.mk hK
                    have HR' := Aside.mk hR
                    have HZ := Aside.mk hZi
                    clear hK haft hR hZi
                    simp only [put20, Act.put, List.setIfInBounds_toArray, List.set_cons_zero, List.set_cons_succ]
                    unfold opVal
                    go_simp
                    go_at_call 33
                    refine (doOf ga _ a HOK.out (HR'.out.s0 HZ.out).sa (fun k hk => hk.1) HR'.out.op).mono ?_
                    rintro e w7 ⟨v7, rfl, htv, hs, hg⟩
                    have hG := HG.out
                    have hN := HN.out
                    try simp only [put20, Act.put, List.setIfInBounds_toArray, List.set_cons_zero, List.set_cons_succ]
                    refine HK'.out _ _ ?_
                    simp only [J20, put20, Act.put, List.setIfInBounds_toArray, List.set_cons_zero, List.set_cons_succ]
                    refine ⟨_, _, _, u90, u91, u92, u17, u18, rfl, n17, n18, HR'.out.set2 HZ.out ⟨by omega, by omega, by omega, by omega⟩ hg htv hs⟩
                  rcases i with _ | i
                  · simp only [List.getElem?_toArray, List.getElem?_cons_succ, List.getElem?_cons_zero, Option.some.injEq] at hoo
                    subst hoo
                    rw [if_pos (by rfl)]
                    clear hsz hi
                    have HK' := Aside.mk hK
                    have HR' := Aside.mk hR
                    clear hK haft hR
                    simp only [put20, Act.put, List.setIfInBounds_toArray, List.set_cons_zero, List.set_cons_succ]
                    go_simp
                    refine HK'.out _ _ ?_
                    simp only [J20, put20, Act.put, List.setIfInBounds_toArray, List.set_cons_zero, List.set_cons_succ]
                    refine ⟨u87, u88, u89, _, u91, u92, u17, u18, rfl, n17, n18, HR'.out.set3 rfl⟩
                  rcases i with _ | i
                  · simp only [List.getElem?_toArray, List.getElem?_cons_succ, List.getElem?_cons_zero, Option.some.injEq] at hoo
                    subst hoo
                    rw [if_pos (by rfl)]
                    clear hsz hi
                    have q := hR.op.cells.twelve
                    have HK' := Aside.mk hK
                    have HR' := Aside.mk hR
                    clear hK haft hR
                    simp only [put20, Act.put, List.setIfInBounds_toArray, List.set_cons_zero, List.set_cons_succ]
                    go_simp
                    refine HK'.out _ _ ?_
                    simp only [J20, put20, Act.put, List.setIfInBounds_toArray, List.set_cons_zero, List.set_cons_succ]
                    refine ⟨u87, u88, u89, u90, _, u92, u17, u18, rfl, n17, n18, HR'.out.set4 rfl⟩
                  rcases i with _ | i
                  · simp only [List.getElem?_toArray, List.getElem?_cons_succ, List.getElem?_cons_zero, Option.some.injEq] at hoo
                    subst hoo
                    rw [if_pos (by rfl)]
                    clear hsz hi
                    obtain rfl := hR.f3 (haft { on := 3, ground := .data } (by simp) rfl)
                    obtain rfl := hR.f4 (haft { on := 4, ground := .data } (by simp) rfl)
                    have hz2 := (haft { on := 2, ground := .chain } (by simp) rfl)
                    have HK' := Aside.mk hK
                    have HR' := Aside.mk hR
                    have HZ := Aside.mk hZi
                    have HZ2 := Aside.mk hz2
                    clear hz2
                    clear hK haft hR hZi
                    simp only [put20, Act.put, List.setIfInBounds_toArray, List.set_cons_zero, List.set_cons_succ]
                    unfold opVal
                    go_simp
                    go_at_call 33
                    refine (doOf gb _ b' HOK.out (HR'.out.s1 HZ2.out HZ.out).sb (fun k hk => hk.2.1) HR'.out.op).mono ?_
                    rintro e w7 ⟨v7, rfl, htv, hs, hg⟩
                    have hG := HG.out
                    have hN := HN.out
                    try simp only [put20, Act.put, List.setIfInBounds_toArray, List.set_cons_zero, List.set_cons_succ]
                    refine HK'.out _ _ ?_
                    simp only [J20, put20, Act.put, List.setIfInBounds_toArray, List.set_cons_zero, List.set_cons_succ]
                    refine ⟨u87, u88, u89, _, _, _, u17, u18, rfl, n17, n18, HR'.out.set5 HZ.out HZ2.out ⟨by omega, by omega, by omega, by omega⟩ hg htv hs⟩
                  rcases i with _ | i
                  · simp only [List.getElem?_toArray, List.getElem?_cons_succ, List.getElem?_cons_zero, Option.some.injEq] at hoo
                    subst hoo
                    rw [if_pos (by rfl)]
                    clear hsz hi
                    have HK' := Aside.mk hK
                    have HR' := Aside.mk hR
                    have HZ := Aside.mk hZi
                    clear hK haft hR hZi
                    simp only [put20, Act.put, List.setIfInBounds_toArray, List.set_cons_zero, List.set_cons_succ]
                    go_simp
                    refine HK'.out _ _ ?_
                    simp only [J20, put20, Act.put, List.setIfInBounds_toArray, List.set_cons_zero, List.set_cons_succ]
                    refine ⟨u87, u88, u89, u90, u91, u92, _, u18, rfl, _, n18, HR'.out.set6 HZ.out HR'.out.op.bk.lt⟩
                  rcases i with _ | i
                  · simp only [List.getElem?_toArray, List.getElem?_cons_succ, List.getElem?_cons_zero, Option.some.injEq] at hoo
                    subst hoo
                    rw [if_pos (by rfl)]
                    clear hsz hi
                    have HK' := Aside.mk hK
                    have HR' := Aside.mk hR
                    have HZ := Aside.mk hZi
                    clear hK haft hR hZi
                    simp only [put20, Act.put, List.setIfInBounds_toArray, List.set_cons_zero, List.set_cons_succ]
                    go_simp
                    refine HK'.out _ _ ?_
                    simp only [J20, put20, Act.put, List.setIfInBounds_toArray, List.set_cons_zero, List.set_cons_succ]
                    refine ⟨u87, u88, u89, u90, u91, u92, u17, _, rfl, n17, _, HR'.out.set7 HZ.out HR'.out.op.bk.lt⟩
                  rcases i with _ | i
                  · simp only [List.getElem?_toArray, List.getElem?_cons_succ, List.getElem?_cons_zero, Option.some.injEq] at hoo
                    subst hoo
                    rw [if_pos (by rfl)]
                    clear hsz hi
                    have k2 := (haft { on := 2, ground := .phase } (by simp) rfl)
                    have k5 : Z[5]? = some true := haft { on := 5, ground := .chain } (by simp) rfl
                    have k6 := (haft { on := 6, ground := .phase } (by simp) rfl)
                    have k7 := (haft { on := 7, ground := .phase } (by simp) rfl)
                    obtain rfl := (hR.a1 k6).1
                    have hform := (hR.t1 k2).form
                    have h1 := hform.choose_spec
                    generalize hform.choose = X7 at h1
                    have h2 := h1.choose_spec
                    generalize h1.choose = d7 at h2
                    have h3 := h2.choose_spec
                    generalize h2.choose = Y7 at h3
                    have h4 := h3.choose_spec
                    generalize h3.choose = f7 at h4
                    have ee := h4.1
                    have hsl := h4.2
                    clear h4 h3 h2 h1 hform
                    subst ee
                    have q := (hR.c1 k6 hZi).four
                    have q' := (hR.c1 k6 hZi).frozen
                    have HK' := Aside.mk hK
                    have HR' := Aside.mk hR
                    have HZ := Aside.mk (And.intro hZi (And.intro k2 (And.intro k5 (And.intro k6 k7))))
                    clear hK haft hR hZi k2 k5 k6 k7
                    simp only [put20, Act.put, List.setIfInBounds_toArray, List.set_cons_zero, List.set_cons_succ]
                    go_simp
                    refine HK'.out _ _ ?_
                    simp only [J20, put20, Act.put, List.setIfInBounds_toArray, List.set_cons_zero, List.set_cons_succ]
                    refine ⟨u87, u88, _, u90, u91, u92, _, u18, rfl, n17, n18, HR'.out.set8 HZ.out.1 HZ.out.2.1 HZ.out.2.2.1 HZ.out.2.2.2.1 HZ.out.2.2.2.2 rfl hsl.out.1 hsl.out.2⟩
                  rcases i with _ | i
                  · simp only [List.getElem?_toArray, List.getElem?_cons_succ, List.getElem?_cons_zero, Option.some.injEq] at hoo
                    subst hoo
                    rw [if_pos (by rfl)]
                    clear hsz hi
                    have k2 := (haft { on := 2, ground := .phase } (by simp) rfl)
                    have k5 : Z[5]? = some true := haft { on := 5, ground := .phase } (by simp) rfl
                    have k6 := (haft { on := 6, ground := .phase } (by simp) rfl)
                    have k7 := (haft { on := 7, ground := .phase } (by simp) rfl)
                    obtain rfl := (hR.a2 k7).1
                    have hform := (hR.t2 k5).form
                    have h1 := hform.choose_spec
                    generalize hform.choose = X7 at h1
                    have h2 := h1.choose_spec
                    generalize h1.choose = d7 at h2
                    have h3 := h2.choose_spec
                    generalize h2.choose = Y7 at h3
                    have h4 := h3.choose_spec
                    generalize h3.choose = f7 at h4
                    have ee := h4.1
                    have hsl := h4.2
                    clear h4 h3 h2 h1 hform
                    subst ee
                    have q := (hR.c2 k7 hZi).four
                    have q' := (hR.c2 k7 hZi).frozen
                    have HK' := Aside.mk hK
                    have HR' := Aside.mk hR
                    have HZ := Aside.mk (And.intro hZi (And.intro k2 (And.intro k5 (And.intro k6 k7))))
                    clear hK haft hR hZi k2 k5 k6 k7
                    simp only [put20, Act.put, List.setIfInBounds_toArray, List.set_cons_zero, List.set_cons_succ]
                    go_simp
                    refine HK'.out _ _ ?_
                    simp only [J20, put20, Act.put, List.setIfInBounds_toArray, List.set_cons_zero, List.set_cons_succ]
                    refine ⟨u87, u88, u89, u90, u91, _, u17, _, rfl, n17, n18, HR'.out.set9 HZ.out.1 HZ.out.2.1 HZ.out.2.2.1 HZ.out.2.2.2.1 HZ.out.2.2.2.2 rfl hsl.out.1 hsl.out.2⟩
                  exact absurd hi (by simp)
                · intro Z act wz hall hJ
                  obtain ⟨u87, u88, u89, u90, u91, u92, u17, u18, rfl, n17, n18, hR⟩ := hJ
                  subst hA
                  obtain rfl := (hR.a1 (hall 6 (by decide))).1
                  obtain rfl := (hR.a2 (hall 7 (by decide))).1
                  simp only [put20, Act.put, List.setIfInBounds_toArray, List.set_cons_zero, List.set_cons_succ]
                  have HF := Aside.mk (And.intro (hR.d1 (hall 8 (by decide))) (And.intro (hR.d2 (hall 9 (by decide))) (And.intro (hR.s2 (hall 5 (by decide))) hR.op)))
                  clear hR hall
                  go_wp2_with fail
                  go_meet
                  exact ⟨n17, n18, rfl, rfl, HF⟩
              case rest =>
                obtain ⟨n17, n18, rfl, rfl, HF⟩ := hcut
                have HT8 := Aside.mk (HT3.out.both HID.out HOK.out)
                have HS8 : Aside (St w wc (Xn ga gb ga ga) ga gb w.heap.size s (some ad) AM L M (doS a o).1 (doS b' o).1) := ⟨HF.out.2.2.1.mono fun k hk _ => ⟨hk.1, hk.2.1, hk.1, hk.1⟩⟩
                obtain ⟨X1, d1, Y1, f1, hq17, HR17⟩ := HF.out.1.form
                obtain ⟨X2, d2, Y2, f2, hq18, HR18⟩ := HF.out.2.1.form
                have q17 := hq17.four
                have q18 := hq18.four
                have qp := HF.out.2.2.1.box.cell 0
                have qo := HF.out.2.2.2.bk.cell 0
                change wc.cell? ⟨w.heap.size, 0, none⟩ = some (.int .i64 s) at qp
                change wc.cell? ⟨n, 0, none⟩ = some (.int .i64 o.kind) at qo
                have hpart := part_andNot (a := seesV up3 a.rules o.who) (b := s) (by omega) (by have := seesV_255 up3 a.rules o.who; omega) HS7.out.1 (by have := HS7.out.2; omega)
                have HPT := Aside.mk hpart
                have HTD : Aside (o.kind = 2 ∨ o.kind = 3 ∨ part (seesV up3 a.rules o.who) s = true → (doS a o).2 = (doS b' o).2) := ⟨fun h => HT3.out.told HID.out HOK.out (by rw [HUP.out]; exact h)⟩
                clear hpart hq17 hq18 HF HS6 HOP6 HB6 HS4 HOP4
                by_cases z1 : (bits .andNot .i64 (seesV up3 a.rules o.who : Int) s == 0) = true
                · have he := HTD.out (.inr (.inr (HPT.out ▸ z1)))
                  rw [he] at q17 HR17
                  clear he
                  go_wp2_with (go_at_call 35; refine (sameTold (doS b' o).2.code (doS b' o).2.vers (doS b' o).2.ids _ _ none _ _ none _ _ 0 _ _ 0 _ _ _ _ _ HR17.out.1 HR17.out.2 HR18.out.1 HR18.out.2).mono ?_; rintro e w8 ⟨rfl, hb⟩
                               have HB8 := Aside.mk hb; clear hb)
                  refine ⟨⟨k + 1, _, _, by omega, by go_num, ⟨HS8.out.below HB8.out⟩, HT8⟩, by simp [intOf]; omega⟩
                · have z1' : (bits .andNot .i64 (seesV up3 a.rules o.who : Int) s == 0) = false := by simpa using z1
                  clear z1
                  by_cases z2 : o.kind = 2
                  · have z2' : (o.kind == 2) = true := by simp [z2]
                    have he := HTD.out (.inl z2)
                    rw [he] at q17 HR17
                    clear he z2
                    go_wp2_with (go_at_call 35; refine (sameTold (doS b' o).2.code (doS b' o).2.vers (doS b' o).2.ids _ _ none _ _ none _ _ 0 _ _ 0 _ _ _ _ _ HR17.out.1 HR17.out.2 HR18.out.1 HR18.out.2).mono ?_; rintro e w8 ⟨rfl, hb⟩
                                 have HB8 := Aside.mk hb; clear hb)
                    refine ⟨⟨k + 1, _, _, by omega, by go_num, ⟨HS8.out.below HB8.out⟩, HT8⟩, by simp [intOf]; omega⟩
                  · have z2' : (o.kind == 2) = false := by simp [z2]
                    clear z2
                    by_cases z3 : o.kind = 3
                    · have z3' : (o.kind == 3) = true := by simp [z3]
                      have he := HTD.out (.inr (.inl z3))
                      rw [he] at q17 HR17
                      clear he z3
                      go_wp2_with (go_at_call 35; refine (sameTold (doS b' o).2.code (doS b' o).2.vers (doS b' o).2.ids _ _ none _ _ none _ _ 0 _ _ 0 _ _ _ _ _ HR17.out.1 HR17.out.2 HR18.out.1 HR18.out.2).mono ?_; rintro e w8 ⟨rfl, hb⟩
                                   have HB8 := Aside.mk hb; clear hb)
                      refine ⟨⟨k + 1, _, _, by omega, by go_num, ⟨HS8.out.below HB8.out⟩, HT8⟩, by simp [intOf]; omega⟩
                    · have z3' : (o.kind == 3) = false := by simp [z3]
                      clear z3
                      go_wp2_with fail
                      refine ⟨⟨k + 1, _, _, by omega, by go_num, HS8, HT8⟩, by simp [intOf]; omega⟩
    · obtain rfl : k = L.length := by omega
      have HC : Aside (wr.cell? ⟨w.heap.size, 0, none⟩ = some (.int .i64 s)) := ⟨HS.out.box.cell 0⟩
      have HEA := Aside.mk HT.out.lo.ea
      have HEB := Aside.mk HT.out.lo.eb
      have HPA : Aside (partErr a.l s = 0) := ⟨by rw [partErr, if_neg (by simpa using HEA.out), if_neg (by have := HS7.out; omega)]⟩
      have HPB : Aside (partErr b.l s = 0) := ⟨by rw [partErr, if_neg (by simpa using HEB.out), if_neg (by have := HS7.out; omega)]⟩
      have HSAME : Aside (partV a.l s = partV b.l s) := ⟨by rw [partV, partV, HPA.out, HPB.out, HT.out.lo.seen]⟩
      go_upto_region 24 with fail
      go_region_held3 (fun w' => w'.cell? ⟨w.heap.size, 0, none⟩ = some (.int .i64 s)) (first | exact HC.out | assumption)
        (first
         | (go_at_call 37
            refine (serverVersions ga _ a _ (HS.out.sa.below (below_drewN (Below.refl _ _) 1)) HEA.out).mono ?_
            rintro e w7 ⟨v7, rfl, ho, hb⟩
            have hb7 := below_step (below_drewN (Below.refl _ _) 1) hb
            have hx7 := cell_below hb7 HC.out
            have HB7 := Aside.mk hb7
            have HV7 := Aside.mk ho
            obtain ⟨X7, d7, rfl⟩ := Sl.form ho.sl
            clear ho hb hb7)
         | (go_at_call 36
            refine (storePart _ _ a.l s _ _ HV7.out.row.2.2 HV7.out.row.2.1).mono ?_
            rw [HPA.out]
            rintro e w8 ⟨v8, rfl, s8, hb⟩
            have hx8 := cell_below hb (by assumption)
            have HB8 := Aside.mk (below_step HB7.out hb)
            have HP8 := Aside.mk s8
            obtain ⟨X8, d8, rfl⟩ := Sl.form s8
            clear s8 hb))
      have HS8 := Aside.mk (HS.out.below HB8.out)
      have HC8 : Aside (w8.cell? ⟨w.heap.size, 0, none⟩ = some (.int .i64 s)) := ⟨HS8.out.box.cell 0⟩
      go_upto_region 25 with fail
      go_region_held3 (fun w' => w'.cell? ⟨w.heap.size, 0, none⟩ = some (.int .i64 s)) (first | exact HC8.out | assumption)
        (first
         | (go_at_call 37
            refine (serverVersions gb _ b _ (HS8.out.sb.below (below_drewN (Below.refl _ _) 1)) HEB.out).mono ?_
            rintro e w9 ⟨v9, rfl, ho, hb⟩
            have hb9 := below_step (below_drewN (Below.refl _ _) 1) hb
            have hx9 := cell_below hb9 HC8.out
            have HB9 := Aside.mk hb9
            have HV9 := Aside.mk ho
            obtain ⟨X9, d9, rfl⟩ := Sl.form ho.sl
            clear ho hb hb9)
         | (go_at_call 36
            refine (storePart _ _ b.l s _ _ HV9.out.row.2.2 HV9.out.row.2.1).mono ?_
            rw [HPB.out]
            rintro e wa ⟨va, rfl, sa, hb⟩
            have hxa := cell_below hb (by assumption)
            have HBA := Aside.mk (below_step HB9.out hb)
            have HPQ := Aside.mk sa
            obtain ⟨XA, dA, rfl⟩ := Sl.form sa
            clear sa hb))
      have HS9 := Aside.mk (HS8.out.below HBA.out)
      have HP9 := Aside.mk (HP8.out.below HBA.out)
      obtain ⟨_, _, e8, _, r8⟩ := HP9.out
      obtain ⟨_, _, e9, _, r9⟩ := HPQ.out
      injection e8 with e81 e82 e83
      injection e9 with e91 e92 e93
      subst e81 e83 e91 e93
      have HRR := Aside.mk (And.intro r8 r9)
      clear r8 r9 e82 e92
      go_wp2_with (go_at_call 38; refine (refSameStore _ _ _ _ _ _ (partV a.l s) (partV b.l s) _ _ _ HRR.out.1 HRR.out.2 rfl rfl).mono ?_; rw [decide_eq_true HSAME.out]; rintro e wb ⟨rfl, hb⟩
                   have HBB := Aside.mk hb; clear hb)
      go_ret
      exact ⟨rfl, below_step HS9.out.bel HBB.out⟩
end Go.Proofs.WK
