/-
  The law TopTorn, walked: it returns true.
-/
import Derived.Test.YtljjiicjnoljbaaGreatDoorTornS
import Derived.Test.YtljjiicjnoljbaaGreatDoorTop0
import Derived.Test.YtljjiicjnoljbaaGreatDoorLogR
import Derived.Test.YtljjiicjnoljbaaGreatDoorSameSto
namespace Go.Proofs.WK
open Go.RowKit Rp
/-- What stands at a place of a list of what is said. -/
theorem opAtT {w : World} {ok : Nat → Prop} {A : Option Addr} {xs : List OpV} (h : opRp.Row w ok A xs) {k : Nat} (hk : k < xs.length) : ∃ ad B1 e1 B2 e2 B3 e3, A = some ad ∧ ad.block < w.heap.size ∧ ok ad.block ∧
    (w.cell? (ad.add (k * 12)) = some (.int .i64 xs[k].kind) ∧ w.cell? ⟨(ad.add (k * 12)).block, (ad.add (k * 12)).off + 1, none⟩ = some (.int .i64 xs[k].who.role) ∧ w.cell? ⟨(ad.add (k * 12)).block, (ad.add (k * 12)).off + 2, none⟩ = some (.int .i64 xs[k].who.why) ∧
    w.cell? ⟨(ad.add (k * 12)).block, (ad.add (k * 12)).off + 3, none⟩ = some (.int .i64 xs[k].who.time) ∧ w.cell? ⟨(ad.add (k * 12)).block, (ad.add (k * 12)).off + 4, none⟩ = some (.slice B1 xs[k].rules.length e1) ∧
    w.cell? ⟨(ad.add (k * 12)).block, (ad.add (k * 12)).off + 5, none⟩ = some (.string xs[k].r.id) ∧ w.cell? ⟨(ad.add (k * 12)).block, (ad.add (k * 12)).off + 6, none⟩ = some (.int .i64 xs[k].r.cats) ∧
    w.cell? ⟨(ad.add (k * 12)).block, (ad.add (k * 12)).off + 7, none⟩ = some (.slice B2 xs[k].r.fields.length e2) ∧ w.cell? ⟨(ad.add (k * 12)).block, (ad.add (k * 12)).off + 8, none⟩ = some (.slice B3 xs[k].r.refs.length e3) ∧
    w.cell? ⟨(ad.add (k * 12)).block, (ad.add (k * 12)).off + 9, none⟩ = some (.string xs[k].id) ∧ w.cell? ⟨(ad.add (k * 12)).block, (ad.add (k * 12)).off + 10, none⟩ = some (.string xs[k].f.key) ∧ w.cell? ⟨(ad.add (k * 12)).block, (ad.add (k * 12)).off + 11, none⟩ = some (.string xs[k].f.val)) ∧
    Aside (rulR.Row w ok B1 xs[k].rules ∧ fldR.Row w ok B2 xs[k].r.fields ∧ xs[k].r.fields.length ≤ e2 ∧ str.Row w ok B3 xs[k].r.refs ∧ xs[k].r.refs.length ≤ e3) := by
  obtain ⟨ad, c, e, hb, ho, hK, hc0⟩ := h.at_ hk
  have hc : ∀ i u, c[i]? = some u → w.cell? (ad.add (k * 12 + i)) = some u := hc0
  obtain ⟨_, _, _, rfl, ⟨B1, e1, rfl, l1, r1⟩, ⟨B2, e2, rfl, l2, r2⟩, ⟨B3, e3, rfl, l3, r3⟩⟩ := hK
  refine ⟨ad, B1, e1, B2, e2, B3, e3, e, hb, ho, ⟨hc 0 _ rfl, ?_, ?_, ?_, ?_, ?_, ?_, ?_, ?_, ?_, ?_, ?_⟩, ⟨r1, r2, l2, r3, l3⟩⟩
  · rw [← add_field _ _ 1 (by omega)]; exact hc 1 _ rfl
  · rw [← add_field _ _ 2 (by omega)]; exact hc 2 _ rfl
  · rw [← add_field _ _ 3 (by omega)]; exact hc 3 _ rfl
  · rw [← add_field _ _ 4 (by omega)]; exact hc 4 _ rfl
  · rw [← add_field _ _ 5 (by omega)]; exact hc 5 _ rfl
  · rw [← add_field _ _ 6 (by omega)]; exact hc 6 _ rfl
  · rw [← add_field _ _ 7 (by omega)]; exact hc 7 _ rfl
  · rw [← add_field _ _ 8 (by omega)]; exact hc 8 _ rfl
  · rw [← add_field _ _ 9 (by omega)]; exact hc 9 _ rfl
  · rw [← add_field _ _ 10 (by omega)]; exact hc 10 _ rfl
  · rw [← add_field _ _ 11 (by omega)]; exact hc 11 _ rfl
theorem within_eqT {x n : Int} (h0 : 0 < n) (h1 : n ≤ 1000000) : wrap64 ((IntKind.u64.wrap x).tmod n) = withinV x n := by
  have e : IntKind.u64.wrap x = x % 18446744073709551616 := by simp [IntKind.wrap, IntKind.bits, IntKind.signed]
  rw [e, Int.tmod_eq_emod_of_nonneg (Int.emod_nonneg _ (by omega))]
  have h := withinV_lt (x := x) h0
  show wrap64 (withinV x n) = withinV x n
  generalize withinV x n = y at *
  unfold wrap64
  omega
set_option maxRecDepth 100000 in
theorem withinT (x n : Int) (h0 : 0 < n) (h1 : n ≤ 1000000) (w : World) :
    Calls Tryz.prog 15 #[.int .i64 x, .int .i64 n] w fun e w' => e = .returned (.int .i64 (withinV x n)) ∧ w = w' := by
  go_enter Tryz.func15, Tryz.ntmps15
  go_wp2_with fail
  go_ret
  exact ⟨by rw [← within_eqT h0 h1]; rfl, rfl⟩
theorem infoVs : (Tryz.prog.info? 42).map (fun i => (i.zero, i.size, i.bytes)) = some (some (.slice none 0 0), 1, 24) := by kernel_rfl
theorem vers_at {w : World} {ok : Nat → Prop} {A : Option Addr} {l : List (List Ver)} (h : (Rp.slice verR).Row w ok A l) {k : Nat} (hk : k < l.length) : ∃ ad B d, A = some ad ∧ ad.block < w.heap.size ∧ w.cell? (ad.add k) = some (.slice B l[k].length d) ∧ l[k].length ≤ d ∧ verR.Row w ok B l[k] := by
  obtain ⟨ad, u, e, h2, _, hK, hc⟩ := h.at1 rfl hk
  obtain ⟨v, hv, B, d, rfl, hd, hr⟩ := hK
  obtain rfl : u = _ := by simpa using hv
  exact ⟨ad, B, d, e, h2, hc, hd, hr⟩
theorem SrvIs.ltT {F : Nat → Prop} {g : Nat} {s : Srv} {w : World} (h : SrvIs w g F s) : g < w.heap.size := by
  obtain ⟨_, _, _, _, _, _, _, _, hb, _⟩ := h
  exact hb.lt
/-- While the first server is told what there is. -/
structure TnS (w0 w : World) (ga : Nat) (AL : Option Addr) (L : List OpV) (v : Value) (a : Srv) (was : List (List Ver)) : Prop where
  sa : SrvIs w ga (fun k => k ≠ ga ∧ some k ≠ v.ownBlock) a
  rl : opRp.Row w (fun k => k ≠ ga ∧ some k ≠ v.ownBlock) AL L
  own : (Rp.slice verR).Own 42 w w0.heap.size (fun k => k ≠ ga) v was
  ge : w0.heap.size ≤ ga
  ne : ∀ k, v.ownBlock = some k → k ≠ ga
  bel : Below w0.heap.size w0 w
section
variable {w0 w w' : World} {ga : Nat} {AL : Option Addr} {L : List OpV} {v v1 : Value} {a a' : Srv} {was was1 : List (List Ver)}
theorem TnS.below (h : TnS w0 w ga AL L v a was) (hb : Below w.heap.size w w') : TnS w0 w' ga AL L v a was :=
  ⟨h.sa.below hb, h.rl.below hb, h.own.below hb, h.ge, h.ne, below_step h.bel hb⟩
theorem TnS.did (h : TnS w0 w ga AL L v a was) (hg : w.grownBy w' (some ga)) (hs : SrvIs w' ga (fun k => (k ≠ ga ∧ some k ≠ v.ownBlock) ∨ w.heap.size ≤ k) a') : TnS w0 w' ga AL L v a' was := by
  have hlt := h.sa.ltT
  refine ⟨hs.more fun k hk _ => hk.elim id fun hk => ⟨by omega, fun e => by have := (h.own.lt k e.symm).2; omega⟩, h.rl.move fun k hk hl => hg.block k hl fun e => hk.1 (by injection e), ?_, h.ge, h.ne, h.bel.grown hg h.bel.size fun k hk => by injection hk with hk; have := h.ge; omega⟩
  exact h.own.grown hg (fun k hk e => h.ne k hk (by injection e)) fun k hk e => hk (by injection e)
theorem TnS.push (h : TnS w0 w ga AL L v a was) (hg : w.grownBy w' v.ownBlock) (ho : (Rp.slice verR).Own 42 w' w0.heap.size (fun k => k ≠ ga) v1 was1) (hat : v1.ownBlock = v.ownBlock ∨ ∃ b, v1.ownBlock = some b ∧ w.heap.size ≤ b) : TnS w0 w' ga AL L v1 a was1 := by
  have hlt := h.sa.ltT
  have key : ∀ k, (k ≠ ga ∧ some k ≠ v.ownBlock) → k < w.heap.size → (k ≠ ga ∧ some k ≠ v1.ownBlock) ∧ some k ≠ v.ownBlock := by
    intro k hk hl
    refine ⟨⟨hk.1, ?_⟩, hk.2⟩
    rcases hat with e | ⟨b, e, hb⟩
    · rw [e]; exact hk.2
    · rw [e]; intro e2; injection e2 with e2; omega
  have hga : some ga ≠ v.ownBlock := fun e => h.ne ga e.symm rfl
  refine ⟨((h.sa.more key).move (hg.block ga hlt hga) fun k hk hl => hg.block k hl hk.2).more fun k hk _ => hk.1, ((h.rl.mono key).move fun k hk hl => hg.block k hl hk.2).mono fun k hk _ => hk.1, ho, h.ge, fun k hk => ?_, h.bel.grown hg h.bel.size fun k hk => (h.own.lt k hk).1⟩
  rcases hat with e | ⟨b, e, hb⟩
  · exact h.ne k (e ▸ hk)
  · rw [e] at hk
    injection hk with hk
    omega
end
/-- While the second server does what the log says. -/
structure TxS (w0 w : World) (gx : Nat) (AD : Option Addr) (done : List OpV) (AV : Option Addr) (was : List (List Ver)) (a : Srv) : Prop where
  sa : SrvIs w gx (fun k => k ≠ gx) a
  rl : opRp.Row w (fun k => k ≠ gx) AD done
  rw_ : (Rp.slice verR).Row w (fun k => k ≠ gx) AV was
  ge : w0.heap.size ≤ gx
  bel : Below w0.heap.size w0 w
section
variable {w0 w w' : World} {gx : Nat} {AD AV : Option Addr} {done : List OpV} {a a' : Srv} {was : List (List Ver)}
theorem TxS.below (h : TxS w0 w gx AD done AV was a) (hb : Below w.heap.size w w') : TxS w0 w' gx AD done AV was a :=
  ⟨h.sa.below hb, h.rl.below hb, h.rw_.below hb, h.ge, below_step h.bel hb⟩
theorem TxS.did (h : TxS w0 w gx AD done AV was a) (hg : w.grownBy w' (some gx)) (hs : SrvIs w' gx (fun k => k ≠ gx ∨ w.heap.size ≤ k) a') : TxS w0 w' gx AD done AV was a' := by
  have hlt := h.sa.ltT
  exact ⟨hs.more fun k hk _ => hk.elim id fun hk => by omega, h.rl.move fun k hk hl => hg.block k hl fun e => hk (by injection e), h.rw_.move fun k hk hl => hg.block k hl fun e => hk (by injection e), h.ge, h.bel.grown hg h.bel.size fun k hk => by injection hk with hk; have := h.ge; omega⟩
end
theorem Bk.movedT {w w' : World} {n : Nat} {cs : List Value} (h : Bk w n cs) (e : w'.heap[n]? = w.heap[n]?) : Bk w' n cs := by
  obtain ⟨t, h⟩ := h
  exact ⟨t, e.trans h⟩
theorem ops_of {l : List (List Int)} : ∀ o ∈ opsV l, ∃ x y z, o = opOf x y z := by
  intro o ho
  unfold opsV opsK at ho
  obtain ⟨c, _, hc⟩ := List.mem_flatMap.1 ho
  unfold opsOne at hc
  split at hc
  · exact ⟨_, _, _, List.mem_singleton.1 hc⟩
  · cases hc
theorem opVl_size (y : Int) : (opVl y).size ≤ 1 := by
  unfold opVl
  generalize (withinV y 2).toNat = i
  match i with
  | 0 => decide
  | 1 => decide
  | i + 2 => exact Nat.zero_le _
theorem ops_wf {l : List (List Int)} : ∀ o ∈ opsV l, RecWf o.r := by
  intro o ho
  obtain ⟨x, y, z, rfl⟩ := ops_of o ho
  intro f hf
  obtain rfl : f = ⟨⟨#[107]⟩, opVl y⟩ := List.mem_singleton.1 hf
  have := opVl_size y
  show (opVl y).size ≤ _
  omega
theorem who_nums {o : OpV} (h : whoOk o.who = true) : NumsOk (whoN o) := by
  obtain ⟨w1, w2, w3⟩ := who_range h
  intro n hn
  simp only [whoN, List.mem_cons, List.not_mem_nil, or_false] at hn
  rcases hn with rfl | rfl | rfl <;> omega
theorem text_snoc (log : List OpV) (o : OpV) : bs (linesL log) ++ lineS o = bs (linesL (log ++ [o])) := by
  rw [lineS_bs, bs_app, linesL_snoc]
theorem codeOf (x : Int) (a b c : Value) (W : World) : (Instr.field 45 (.agg #[.int .i64 x, a, b, c]) 0).run Tryz.prog W = .ok (.int .i64 x) W := by kernel_rfl
set_option maxHeartbeats 16000000 in
set_option maxRecDepth 100000 in
theorem topTornL (A1 : Option Addr) (c1 : Nat) (L0 : List (List Int)) (cut : Int) (ok1 : Nat → Prop) (w : World) (hr1 : (Rp.slice int).Row w ok1 A1 L0) (hc1 : L0.length ≤ c1) (he : EnvC w) :
    Calls Tryz.prog 3 #[.slice A1 L0.length c1, .int .i64 cut] w fun e w' => e = .returned (.bool true) ∧ Below w.heap.size w w' := by
  have HR1 := Aside.mk (And.intro hr1 hc1)
  have HE := Aside.mk he
  clear hr1 hc1 he
  have hcf := codeOf
  go_enter Tryz.func3, Tryz.ntmps3
  go_wp2_with fail
  refine (topBegun _).mono ?_
  rintro e w1 ⟨rfl, hb⟩
  have HB1 := Aside.mk hb
  clear hb
  go_wp2_with fail
  refine (topBegan _).mono ?_
  rintro e w2 ⟨ga, hga, rfl, hsa, hb⟩
  have HTS : Aside (TnS w (w2.alloc (.cells #[.slice none 0 0] 42)) ga none [] (.slice (some ⟨w2.heap.size, 0, none⟩) 1 1) (rep []) (wasV [])) := ⟨by
    have hal : Below w2.heap.size w2 (w2.alloc (.cells #[.slice none 0 0] 42)) := (Below.refl _ _).alloc (Nat.le_refl _) _
    have h1 := hsa.ltT
    have h0 := HB1.out.size
    have hrep : Reps ((Rp.slice verR).K w2 (fun k => k ≠ ga)) (Rp.slice verR).sz [[]] [.slice none 0 0] := by
      refine ⟨rfl, fun j p hp => ?_⟩
      obtain rfl : j = 0 := by
        have := (List.getElem?_eq_some_iff.1 hp).1
        simpa using this
      obtain rfl : ([] : List Ver) = p := by simpa using hp
      exact ⟨_, rfl, Sl.nil _ _ _⟩
    exact ⟨(hsa.more fun k hk hl => ⟨hk.2, fun e => by injection e with e; have e2 : k = w2.heap.size := e; omega⟩).below hal, Row.nil, Own.lit (Rp.slice verR) 42 w2 w.heap.size (fun k => k ≠ ga) (Nat.le_trans (Nat.le_trans h0 (Nat.le_trans hga (Nat.le_of_lt h1))) (Nat.le_refl _)) hrep (by decide), by omega, fun k hk => by injection hk with hk; have e2 : w2.heap.size = k := hk; omega, below_step (below_step HB1.out hb) hal⟩⟩
  clear hb hsa hga
  go_wp2_with fail
  refine (topOps A1 c1 L0 _ _ (HR1.out.1.below HTS.out.bel) HR1.out.2).mono ?_
  rintro e w6 ⟨vl, rfl, ⟨AL, cl, rfl, hcl, rl⟩, hb⟩
  have HTS6 : Aside (TnS w w6 ga AL (opsV L0) (.slice (some ⟨w2.heap.size, 0, none⟩) 1 1) (rep []) (wasV [])) := ⟨by
    have h := HTS.out.below hb
    have h1 := HTS.out.sa.ltT
    have h2 := (HTS.out.own.lt w2.heap.size rfl).2
    exact ⟨h.sa, rl.mono fun k hk _ => ⟨by omega, fun e => by injection e with e; have e2 : k = w2.heap.size := e; omega⟩, h.own, h.ge, h.ne, h.bel⟩⟩
  have HOL : Aside (∀ o ∈ opsV L0, OpFit o) := ⟨ops_ok⟩
  have HOW : Aside (∀ o ∈ opsV L0, RecWf o.r) := ⟨ops_wf⟩
  have HLE : Aside ((opsV L0).length ≤ 25) := ⟨opsV_len _⟩
  generalize opsV L0 = L at *
  clear rl hb HTS HB1 HR1 hcl
  generalize w2.heap.size = n2 at HTS6 ⊢
  go_wp2_with fail
  go_loopw [31, 7, 8] (fun i t s8 wr => ∃ (k : Nat) (log : List OpV) (v : Value), k ≤ L.length ∧ i = .int .i64 k ∧ t = .string (bs (linesL log)) ∧ s8 = v ∧ Aside (TnS w wr ga AL L v (rep log) (wasV log)) ∧ Aside (LogOk log ∧ log.length ≤ k)) (fun i _ _ _ => L.length - (intOf i).toNat)
  case atStart => exact ⟨0, [], _, Nat.zero_le _, rfl, rfl, rfl, HTS6, ⟨⟨LogOk.nil, Nat.le_refl _⟩⟩⟩
  case round =>
    clear HTS6
    obtain ⟨k, log, v, hk, rfl, rfl, hv8, HS, HL⟩ := hrel
    have hv9 := hv8.symm
    subst hv9
    have hle := HLE.out
    by_cases hlt : k < L.length
    · as_aux_lemma =>
      have p0 : (0 : Int) ≤ (k : Int) := by omega
      have p1 : (k : Int) < (L.length : Int) := by omega
      obtain ⟨ad, B1, e1, B2, e2, B3, e3, rfl, hbl, _, qo, HK⟩ := opAtT HS.out.rl hlt
      have HO := HOL.out L[k] (List.getElem_mem hlt)
      have HWF := HOW.out L[k] (List.getElem_mem hlt)
      obtain ⟨o, ho⟩ : ∃ o, L[k] = o := ⟨_, rfl⟩
      rw [ho] at qo HK HO HWF
      have HOK := Aside.mk HO
      have HWFA := Aside.mk HWF
      clear HO HWF ho
      have hal : Below wr.heap.size wr (wr.alloc (.cells #[.int .i64 o.kind, .int .i64 o.who.role, .int .i64 o.who.why, .int .i64 o.who.time, .slice B1 o.rules.length e1, .string o.r.id, .int .i64 o.r.cats, .slice B2 o.r.fields.length e2, .slice B3 o.r.refs.length e3, .string o.id, .string o.f.key, .string o.f.val] 40)) := (Below.refl _ _).alloc (Nat.le_refl _) _
      have HS1 := Aside.mk (HS.out.below hal)
      have HQ1 := Aside.mk (Bk.made wr [.int .i64 o.kind, .int .i64 o.who.role, .int .i64 o.who.why, .int .i64 o.who.time, .slice B1 o.rules.length e1, .string o.r.id, .int .i64 o.r.cats, .slice B2 o.r.fields.length e2, .slice B3 o.r.refs.length e3, .string o.id, .string o.f.key, .string o.f.val] 40)
      have HK1 := Aside.mk (show rulR.Row _ _ B1 o.rules ∧ fldR.Row _ _ B2 o.r.fields ∧ o.r.fields.length ≤ e2 ∧ str.Row _ _ B3 o.r.refs ∧ o.r.refs.length ≤ e3 from ⟨HK.out.1.below hal, HK.out.2.1.below hal, HK.out.2.2.1, HK.out.2.2.2.1.below hal, HK.out.2.2.2.2⟩)
      have HN : Aside (ga < wr.heap.size) := ⟨HS.out.sa.ltT⟩
      clear hal HK HS
      go_upto_region 11 with fail
      generalize wr.heap.size = n at HQ1 HN ⊢
      generalize wr.alloc _ = W1 at HS1 HQ1 HK1 ⊢
      clear qo hbl
      have q := HQ1.out.twelve
      by_cases hk1 : o.kind = 1
      · have k1 : (o.kind == 1) = true := beq_iff_eq.2 hk1
        clear hk1
        go_wp2_with fail
        exact ⟨⟨k + 1, log, _, by omega, by go_num, rfl, rfl, HS1, ⟨⟨HL.out.1, by have := HL.out.2; omega⟩⟩⟩, by simp [intOf]; omega⟩
      · have k1 : (o.kind == 1) = false := beq_eq_false_iff_ne.2 hk1
        have HK1N := Aside.mk hk1
        clear hk1
        have HD := Aside.mk (doAll ga _ (rep log) o HOK.out.kind B1 e1 B2 e2 B3 e3 _ _ _ _ HS1.out.sa (fun k hk => hk.1) HK1.out.1 HK1.out.2.1 HK1.out.2.2.1 HK1.out.2.2.2.1 HK1.out.2.2.2.2)
        unfold opVal at HD
        go_wp2_with fail
        refine HD.out.mono ?_
        rintro e w3 ⟨v1, v2, rfl, ⟨X1, f1, rfl, _, _⟩, ⟨X2, f2, rfl, _, _⟩, hs, hg⟩
        have HS3 := Aside.mk (HS1.out.did hg hs)
        have hmv : ∀ k, k ≠ ga → k < W1.heap.size → w3.heap[k]? = W1.heap[k]? := fun k h1 h2 => hg.block k h2 fun e => h1 (by injection e)
        have HQ3 := Aside.mk (show Bk w3 n [.int .i64 o.kind, .int .i64 o.who.role, .int .i64 o.who.why, .int .i64 o.who.time, .slice B1 o.rules.length e1, .string o.r.id, .int .i64 o.r.cats, .slice B2 o.r.fields.length e2, .slice B3 o.r.refs.length e3, .string o.id, .string o.f.key, .string o.f.val] from Bk.movedT HQ1.out (hmv n (by have := HN.out; omega) HQ1.out.lt))
        have HK3 := Aside.mk (show rulR.Row w3 _ B1 o.rules ∧ fldR.Row w3 _ B2 o.r.fields ∧ str.Row w3 _ B3 o.r.refs from ⟨HK1.out.1.move fun k hk hl => hmv k hk.1 hl, HK1.out.2.1.move fun k hk hl => hmv k hk.1 hl, HK1.out.2.2.2.1.move fun k hk hl => hmv k hk.1 hl⟩)
        have HE3 := Aside.mk HK1.out.2.2.2.2
        clear hs hg hmv HD q HQ1 HK1 HS1
        have q := HQ3.out.twelve
        rcases torn_step HL.out.1 HOK.out HK1N.out with ⟨hc, hs1⟩ | ⟨hc, hle0, hs1⟩ | ⟨hc, hle0, ht, hlo, hs1⟩
        · have g : ((doS (rep log) o).2.code != 0) = true := by simp [hc]
          rw [hs1] at HS3
          clear hc hs1
          go_wp2_with fail
          exact ⟨⟨k + 1, log, _, by omega, by go_num, rfl, rfl, HS3, ⟨⟨HL.out.1, by have := HL.out.2; omega⟩⟩⟩, by simp [intOf]; omega⟩
        · rw [hs1] at HS3
          have g1 : (logErr o == 0) = false := by simp [hle0]
          rw [hc]
          have HW := Aside.mk (logWrite o B1 B2 B3 e1 e2 e3 _ _ _ w3 HK3.out.1 HK3.out.2.1 HK3.out.2.2 HWFA.out HE3.out (who_nums HOK.out.who) (HE.out.below HS3.out.bel).pow)
          unfold opVal at HW
          clear hc hs1 hle0
          go_wp2_with fail
          refine HW.out.mono ?_
          rintro e w4 ⟨rfl, hb⟩
          have HS4 := Aside.mk (HS3.out.below hb)
          clear hb q HW
          go_wp2_with fail
          exact ⟨⟨k + 1, log, _, by omega, by go_num, rfl, rfl, HS4, ⟨⟨HL.out.1, by have := HL.out.2; omega⟩⟩⟩, by simp [intOf]; omega⟩
        · rw [hs1] at HS3
          have g1 : (logErr o == 0) = true := by simp [hle0]
          rw [hc]
          have HW := Aside.mk (logWrite o B1 B2 B3 e1 e2 e3 _ _ _ w3 HK3.out.1 HK3.out.2.1 HK3.out.2.2 HWFA.out HE3.out (who_nums HOK.out.who) (HE.out.below HS3.out.bel).pow)
          rw [hle0, show logS o = lineS o from if_pos hle0] at HW
          unfold opVal at HW
          have HLO := Aside.mk hlo
          have hz : ¬ (9223372036854775807 < (bs (linesL log)).size + (lineS o).size) := by
            have h1 := lines_small HL.out.1.told
            have h2 := line_small ht
            have h3 := HL.out.2
            rw [lineS_bs, bs_size, bs_size, List.length_append]
            simp only [List.length_cons, List.length_nil]
            omega
          have hz2 := eq_false hz
          clear hc hs1 hle0 ht hlo hz
          go_wp2_with fail
          refine HW.out.mono ?_
          rintro e w4 ⟨rfl, hb⟩
          have HS4 := Aside.mk (HS3.out.below hb)
          clear hb q HW
          go_wp2_with fail
          refine (serverVersions ga _ (rep (log ++ [o])) w4 HS4.out.sa (rep_store _ _ rfl HLO.out)).mono ?_
          rintro e w5 ⟨v5, rfl, ho5, hb⟩
          have HS5 := Aside.mk (HS4.out.below hb)
          have hv5 : verR.Sl w5 (fun k => w4.heap.size ≤ k) v5 (rep (log ++ [o])).l := ho5.sl.mono fun k hk _ => hk.elim id fun h => (ho5.lt k h).1
          obtain ⟨A5, c5, rfl, hc5, hr5⟩ := hv5
          have HP6 := Aside.mk (show (Rp.slice verR).K w5 (fun k => k ≠ ga ∧ some k ≠ v.ownBlock) (rep (log ++ [o])).l [.slice A5 (rep (log ++ [o])).l.length c5] from ⟨_, rfl, _, _, rfl, hc5, hr5.mono fun k hk _ => ⟨by have := HS4.out.sa.ltT; omega, fun e => by have := (HS4.out.own.lt k e.symm).2; omega⟩⟩)
          have HLN : Aside (((wasV log).length + 1) * 24 ≤ 140737488355328) := ⟨by rw [wasV_len]; have := HL.out.2; omega⟩
          clear ho5 hb hr5 hc5
          go_wp2_with (at_builtin
                       refine append_one (w0 := w5) (Rp.slice verR) w.heap.size rfl (.tmp 55) (.tmp 58) 27 42 (.slice none 0 0) 24 rfl Tryz.underlying27 infoVs rfl (by decide) (by decide) v (wasV log) (rep (log ++ [o])).l [.slice A5 (rep (log ++ [o])).l.length c5] (fun k => k ≠ ga) rfl rfl HP6.out HS5.out.own (Below.refl _ _) HS5.out.bel.size HLN.out ?_
                       intro v1 w8 HO1 HB1 hg hat
                       have HS8 := Aside.mk (HS5.out.push hg HO1 hat)
                       clear HO1 HB1 hg hat)
          exact ⟨⟨k + 1, log ++ [o], _, by omega, by go_num, by rw [text_snoc], rfl, by rw [wasV_snoc]; exact HS8, ⟨⟨HLO.out, by simp; exact HL.out.2⟩⟩⟩, by simp [intOf]; omega⟩
    · obtain rfl : k = L.length := by omega
      have hsm := lines_small HL.out.1.told
      obtain ⟨T, hT⟩ : ∃ T, T = bs (linesL log) := ⟨_, rfl⟩
      have hTs : T.size = (linesL log).length := by rw [hT, bs_size]
      have hTz : T.size ≤ 10025 := by have := HL.out.2; omega
      rw [← hT]
      have w1 : IntKind.i64.wrap ((T.size : Int) + 1) = (T.size : Int) + 1 := by rw [IntKind.wrap_i64]; omega
      have hwl := withinV_lt (x := cut) (n := (T.size : Int) + 1) (by omega)
      obtain ⟨m, hm⟩ : ∃ m : Nat, withinV cut ((T.size : Int) + 1) = m := ⟨(withinV cut ((T.size : Int) + 1)).toNat, by omega⟩
      have hm2 : m ≤ T.size := by omega
      obtain ⟨j, tl, hj, htl, htn⟩ := torn log m HL.out.1.told
      have hX : T.extract 0 m = bs (linesL (log.take j) ++ tl) := by rw [hT, bs_extract, List.drop_zero, Nat.sub_zero, htl]
      have hall := all_torn (l := log.take j) (fun o ho => HL.out.1.told o (List.mem_of_mem_take ho)) htn
      obtain ⟨done, hdone⟩ : ∃ d, d = (log.take j).map plainO := ⟨_, rfl⟩
      have hdl : done.length = j := by rw [hdone]; simp; omega
      have hcnt : Lib.countB (T.extract 0 m) (one 10) = j := by
        rw [hX, countB_list, count_lines (fun o ho => HL.out.1.told o (List.mem_of_mem_take ho)) htn]
        simp
        omega
      have hle2 : (linesL (log.take j)).length ≤ m := by
        have := congrArg List.length htl
        simp only [List.length_take, List.length_append] at this
        omega
      have hxs : (T.extract 0 m).size ≤ 10025 := Nat.le_trans (extract_le _ _ _) hTz
      have hW : (allW (T.extract 0 m)).1 = done ∧ (allW (T.extract 0 m)).2.1 = ((linesL (log.take j)).length : Int) ∧ (allW (T.extract 0 m)).2.2 = 0 := by
        unfold allW
        rw [if_neg (by omega), hX, hall, hdone]
        exact ⟨rfl, rfl, rfl⟩
      obtain ⟨AV, cV, rfl, hcV⟩ := HS.out.own.sl.frm
      generalize hLL : (linesL (log.take j)).length = LL at *
      have HDO := Aside.mk (And.intro hdone hdl)
      have HCN := Aside.mk hcnt
      have HWA := Aside.mk hW
      have HXS := Aside.mk hxs
      have HJ := Aside.mk hj
      have m0 : (0 : Int) ≤ (m : Int) := by omega
      have m1 : (m : Int) ≤ (T.size : Int) := by omega
      have g1 : decide ((m : Int) < (LL : Int)) = false := decide_eq_false (by omega)
      have g2 : decide (((wasV log).length : Int) ≤ (done.length : Int)) = false := decide_eq_false (by rw [wasV_len]; omega)
      have g3 : ¬ m < LL := by omega
      have g4 : ¬ (wasV log).length ≤ done.length := by rw [wasV_len]; omega
      have HWT := Aside.mk (withinT cut ((T.size : Int) + 1) (by omega) (by omega))
      rw [hm] at HWT
      clear hsm hT hTs hwl hm hm2 htl htn hX hall hdone hdl hcnt hle2 hW hLL hxs hj hTz hcV
      go_wp2_with fail
      refine (HWT.out _).mono ?_
      rintro e w7 ⟨rfl, rfl⟩
      have HA := Aside.mk (logAll (T.extract 0 m) wr (by have := HXS.out; omega) (HE.out.below HS.out.bel))
      go_wp2_with fail
      refine HA.out.mono ?_
      rintro e w8 ⟨vd, he8, hd, hb⟩
      rw [HWA.out.1] at hd
      rw [HWA.out.2.1, HWA.out.2.2] at he8
      obtain ⟨AD, cD, rfl, hcD, hrd⟩ := hd
      subst he8
      have HS8 := Aside.mk (HS.out.below hb)
      have HRD := Aside.mk hrd
      have HWR := Aside.mk (HS.out.sa.ltT)
      clear hb hrd hcD HA HWA w1
      go_wp2_with fail
      refine (topBegan _).mono ?_
      rintro e w9 ⟨gx, hgx, rfl, hsx, hb⟩
      have HX : Aside (TxS w w9 gx AD done AV (wasV log) (rep ((log.take j).take 0))) := ⟨by
        have h1 := HS8.out.bel.size
        refine ⟨hsx.more fun k hk _ => hk.2, (HRD.out.mono fun k hk hl => ?_).below hb, (HS8.out.own.row.2.2.mono fun k hk hl => ?_).below hb, Nat.le_trans h1 hgx, below_step HS8.out.bel hb⟩
        · omega
        · omega⟩
      clear hsx hgx hb HS8 HRD HS
      go_wp2_with fail
      go_loopw [98] (fun i wr => ∃ i' : Nat, i' ≤ done.length ∧ i = .int .i64 i' ∧ Aside (TxS w wr gx AD done AV (wasV log) (rep ((log.take j).take i')))) (fun i _ => done.length - (intOf i).toNat)
      case atStart => exact ⟨0, Nat.zero_le _, rfl, HX⟩
      case round =>
        clear HX
        obtain ⟨i', hi', rfl, HX⟩ := hrel
        by_cases hlt2 : i' < done.length
        · as_aux_lemma =>
          have hd25 : done.length ≤ 25 := by have := HDO.out.2; have := HJ.out; have := HL.out.2; omega
          have p0 : (0 : Int) ≤ (i' : Int) := by omega
          have p1 : (i' : Int) < (done.length : Int) := by omega
          obtain ⟨ad, B1, e1, B2, e2, B3, e3, rfl, hbl, _, qo, HK⟩ := opAtT HX.out.rl hlt2
          have hjl : i' < (log.take j).length := by
            have h1 := HDO.out.2
            have h2 := HJ.out
            rw [List.length_take]
            omega
          have hoo : done[i'] = plainO (log.take j)[i'] := by
            have h1 := HDO.out.1
            subst h1
            rw [List.getElem_map]
          have htold := HL.out.1.told _ (List.mem_of_mem_take (List.getElem_mem hjl))
          have hdid := (HL.out.1.take j).did i' hjl
          have hnext : rep ((log.take j).take (i' + 1)) = (doS (rep ((log.take j).take i')) (plainO (log.take j)[i'])).1 := by rw [List.take_succ_eq_append_getElem hjl, rep_snoc]
          rw [← hoo] at hdid hnext
          obtain ⟨o, ho⟩ : ∃ o, done[i'] = o := ⟨_, rfl⟩
          have hok : o.kind = 1 ∨ o.kind = 2 ∨ o.kind = 3 ∨ o.kind = 4 ∨ o.kind = 5 ∨ o.kind = 6 := by
            rw [← ho, hoo]
            unfold plainO
            split
            · exact .inr (.inl rfl)
            · exact .inr (.inr (.inl rfl))
          rw [ho] at qo HK hdid hnext
          have HDN := Aside.mk (And.intro hdid (And.intro hnext hok))
          clear hjl hoo htold hdid hnext ho hok
          have hal : Below wr.heap.size wr (wr.alloc (.cells #[.int .i64 o.kind, .int .i64 o.who.role, .int .i64 o.who.why, .int .i64 o.who.time, .slice B1 o.rules.length e1, .string o.r.id, .int .i64 o.r.cats, .slice B2 o.r.fields.length e2, .slice B3 o.r.refs.length e3, .string o.id, .string o.f.key, .string o.f.val] 40)) := (Below.refl _ _).alloc (Nat.le_refl _) _
          have HX1 := Aside.mk (HX.out.below hal)
          have HQ1 := Aside.mk (Bk.made wr [.int .i64 o.kind, .int .i64 o.who.role, .int .i64 o.who.why, .int .i64 o.who.time, .slice B1 o.rules.length e1, .string o.r.id, .int .i64 o.r.cats, .slice B2 o.r.fields.length e2, .slice B3 o.r.refs.length e3, .string o.id, .string o.f.key, .string o.f.val] 40)
          have HK1 := Aside.mk (show rulR.Row _ _ B1 o.rules ∧ fldR.Row _ _ B2 o.r.fields ∧ o.r.fields.length ≤ e2 ∧ str.Row _ _ B3 o.r.refs ∧ o.r.refs.length ≤ e3 from ⟨HK.out.1.below hal, HK.out.2.1.below hal, HK.out.2.2.1, HK.out.2.2.2.1.below hal, HK.out.2.2.2.2⟩)
          clear hal HK HX
          go_upto_region 25 with fail
          generalize wr.heap.size = n at HQ1 ⊢
          generalize wr.alloc _ = W1 at HX1 HQ1 HK1 ⊢
          clear qo hbl
          have q := HQ1.out.twelve
          have HD := Aside.mk (doAll gx _ _ o HDN.out.2.2 B1 e1 B2 e2 B3 e3 _ _ _ _ HX1.out.sa (fun k hk => hk) HK1.out.1 HK1.out.2.1 HK1.out.2.2.1 HK1.out.2.2.2.1 HK1.out.2.2.2.2)
          unfold opVal at HD
          go_wp2_with fail
          refine HD.out.mono ?_
          rintro e w3 ⟨v1, v2, he3, ⟨X1, f1, rfl, _, _⟩, ⟨X2, f2, rfl, _, _⟩, hs, hg⟩
          rw [HDN.out.1] at he3
          subst he3
          have HX3 := HX1.out.did hg hs
          rw [← HDN.out.2.1] at HX3
          have HX4 := Aside.mk HX3
          clear hs hg HD q HQ1 HK1 HX1 HX3
          go_wp2_with fail
          exact ⟨⟨i' + 1, by omega, by go_num, HX4⟩, by simp [intOf]; omega⟩
        · as_aux_lemma =>
          obtain rfl : i' = done.length := by omega
          have hdl := HDO.out.2
          have hwl : done.length < (wasV log).length := by rw [wasV_len]; have := HJ.out; omega
          obtain ⟨av, BV, dv, rfl, hbv, xv, hdv, hrv⟩ := vers_at HX.out.rw_ hwl
          have hwat : (wasV log)[done.length] = (rep (log.take j)).l := by rw [wasV_at, hdl]
          have hrp : rep ((log.take j).take done.length) = rep (log.take j) := by rw [List.take_of_length_le (by rw [List.length_take]; omega)]
          rw [hwat] at xv hdv hrv
          have HSV := Aside.mk (show storeErr (rep (log.take j)).l = 0 from rep_store _ _ rfl (HL.out.1.take j))
          have HX5 := Aside.mk (hrp ▸ HX.out)
          generalize rep (log.take j) = rj at *
          have HRV := Aside.mk hrv
          have d0 : (0 : Int) ≤ (done.length : Int) := by omega
          have d1 : (done.length : Int) < ((wasV log).length : Int) := by omega
          have HCJ := Aside.mk (show Lib.countB (T.extract 0 m) (one 10) = done.length by rw [HCN.out, hdl])
          have HXV := Aside.mk xv
          clear hwat hrp hrv hdv hdl HX HCN HDO HJ
          have HVR := Aside.mk (fun (W : World) (hb : Below wr.heap.size wr W) => serverVersions gx _ rj W (HX5.out.below hb).sa HSV.out)
          have HBX := Aside.mk HX5.out.bel
          go_upto_region 28 with fail
          have HS0 : Aside (wr.drew.cell? (av.add done.length) = some (.slice BV rj.l.length dv) ∧ Aside (Below wr.heap.size wr wr.drew)) := ⟨⟨HXV.out, ⟨(Below.refl wr.heap.size wr).drew⟩⟩⟩
          go_region_held3 (fun w' => w'.cell? (av.add done.length) = some (.slice BV rj.l.length dv) ∧ Aside (Below wr.heap.size wr w'))
            (first
             | with_reducible exact HS0.out
             | assumption)
            (first
             | (go_at_call 14
                with_reducible refine (HVR.out wr.drew (Below.refl wr.heap.size wr).drew).mono ?_
                rintro e w4 ⟨v4, rfl, ho4, hb4⟩
                obtain ⟨A4, c4, rfl, hc4, hr4⟩ := ho4.sl
                have hb5 := below_step (Below.refl wr.heap.size wr).drew hb4
                have hx : w4.cell? (av.add done.length) = some (.slice BV rj.l.length dv) ∧ Aside (Below wr.heap.size wr w4) := ⟨cell_below hb5 HXV.out, ⟨hb5⟩⟩
                have HV4 := Aside.mk hr4
                clear ho4 hb4 hb5 hc4 hr4)
             | (go_at_call 17
                with_reducible refine (refSameStore A4 BV _ _ c4 dv rj.l rj.l _ _ _ HV4.out (HRV.out.below hx.2.out) rfl rfl).mono ?_
                rw [decide_eq_true rfl]
                rintro e w5 ⟨rfl, hb5⟩
                have hb6 := below_step hx.2.out hb5
                have hy : w5.cell? (av.add done.length) = some (.slice BV rj.l.length dv) ∧ Aside (Below wr.heap.size wr w5) := ⟨cell_below hb6 HXV.out, ⟨hb6⟩⟩
                clear hb5 hb6)
             | (go_at_call 18
                with_reducible refine (cntC (T.extract 0 m) 10 _).mono ?_
                rw [HCJ.out]
                rintro e w6 ⟨rfl, rfl⟩))
          all_goals
            go_wp2_with fail
            go_ret
            exact ⟨by simp, below_step HBX.out hy.2.out⟩
end Go.Proofs.WK
