/-
  What TopHides and TopTorn say to their servers, in plain Lean. No walk.
  wytop.begun, began, and what is hidden.
  wytop.ops: the region that builds an operation: its facts.
  wytop.ops.
-/
import Derived.Deep.DeepCutAuto
import Derived.Test.YtljjiicjnoljbaaGreatDoorSrvN
import Derived.Test.YtljjiicjnoljbaaGreatDoorDat
import Derived.Test.YtljjiicjnoljbaaGreatDoorSrv0
import Derived.Test.YtljjiicjnoljbaaGreatDoorWk0
namespace Go.Proofs.WK
def abcS : List ByteArray := [⟨#[97]⟩, ⟨#[98]⟩, ⟨#[99]⟩]
def xyS : List ByteArray := [⟨#[120]⟩, ⟨#[121]⟩]
def kindsL : List Int := [2, 2, 2, 3, 4, 5, 6, 1]
def rules0 : List Rul := [⟨0, -1, 0, 40, 1, true⟩, ⟨1, -1, 0, 40, 3, true⟩, ⟨2, -1, 0, 40, 255, true⟩]
def rules4 : List Rul := [⟨0, -1, 0, 40, 1, true⟩, ⟨1, -1, 0, 20, 3, true⟩, ⟨2, 0, 0, 40, 7, true⟩, ⟨-1, -1, 10, 12, 2, false⟩]
def up3 : List Int := [0, 1, 2]
def opK (x : Int) : Int := kindsL[(withinV (x.tdiv 3) 8).toNat]?.getD 0
def opId (z : Int) : ByteArray := abcS[(withinV z 3).toNat]?.getD ⟨#[]⟩
def opVl (y : Int) : ByteArray := xyS[(withinV y 2).toNat]?.getD ⟨#[]⟩
def opR (x : Int) : List Rul := if opK x = 1 then rules4 else []
def opOf (x y z : Int) : OpV := ⟨opK x, ⟨withinV x 3, withinV y 2, withinV z 30⟩, opR x, ⟨opId z, withinV y 8, [⟨⟨#[107]⟩, opVl y⟩], []⟩, opId z, ⟨⟨#[107]⟩, ⟨#[120]⟩⟩⟩
def opsOne : List Int → List OpV
  | x :: y :: z :: _ => [opOf x y z]
  | _ => []
def opsK (l : List (List Int)) : List OpV := l.flatMap opsOne
/-- wytop.ops. -/
def opsV (l : List (List Int)) : List OpV := opsK (l.take 25)
theorem opsOne_len (c : List Int) : (opsOne c).length ≤ 1 := by
  unfold opsOne
  split <;> simp
theorem opsK_len (l : List (List Int)) : (opsK l).length ≤ l.length := by
  unfold opsK
  induction l with
  | nil => simp
  | cons c l ih => rw [List.flatMap_cons, List.length_append, List.length_cons]; have := opsOne_len c; omega
theorem opsV_len (l : List (List Int)) : (opsV l).length ≤ 25 := Nat.le_trans (opsK_len _) (by simp; omega)
theorem opsK_step {l : List (List Int)} {k : Nat} (hk : k < l.length) : opsK (l.take (k + 1)) = opsK (l.take k) ++ opsOne l[k] := by
  unfold opsK
  rw [List.take_succ_eq_append_getElem hk, List.flatMap_append]
  simp
theorem opK_ways (x : Int) : opK x = 1 ∨ opK x = 2 ∨ opK x = 3 ∨ opK x = 4 ∨ opK x = 5 ∨ opK x = 6 := by
  have h := withinV_lt (x := x.tdiv 3) (n := 8) (by omega)
  unfold opK
  generalize withinV (x.tdiv 3) 8 = i at *
  have : i = 0 ∨ i = 1 ∨ i = 2 ∨ i = 3 ∨ i = 4 ∨ i = 5 ∨ i = 6 ∨ i = 7 := by omega
  rcases this with rfl | rfl | rfl | rfl | rfl | rfl | rfl | rfl <;> decide
/-- What all that is said has. -/
structure OpFit (o : OpV) : Prop where
  kind : o.kind = 1 ∨ o.kind = 2 ∨ o.kind = 3 ∨ o.kind = 4 ∨ o.kind = 5 ∨ o.kind = 6
  who : whoOk o.who = true
  role : 0 ≤ o.who.role ∧ o.who.role < 3
  rules : o.kind = 1 → rulesErr o.rules = 0
  cats : 0 ≤ o.r.cats ∧ o.r.cats < 8
theorem opOf_ok (x y z : Int) : OpFit (opOf x y z) := by
  have h1 := withinV_lt (x := x) (n := 3) (by omega)
  have h2 := withinV_lt (x := y) (n := 2) (by omega)
  have h3 := withinV_lt (x := z) (n := 30) (by omega)
  have h4 := withinV_lt (x := y) (n := 8) (by omega)
  refine ⟨opK_ways x, ?_, h1, fun h => ?_, h4⟩
  · unfold opOf whoOk
    simp
    omega
  · have e : (opOf x y z).rules = rules4 := if_pos h
    rw [e]
    decide
theorem ops_ok {l : List (List Int)} : ∀ o ∈ opsV l, OpFit o := by
  intro o ho
  unfold opsV opsK at ho
  obtain ⟨c, _, hc⟩ := List.mem_flatMap.1 ho
  unfold opsOne at hc
  split at hc
  · rw [List.mem_singleton.1 hc]; exact opOf_ok _ _ _
  · cases hc
theorem roles3 : roleErr up3 = 0 := by decide
theorem sees3 {rs : List Rul} {q : Who} (hr : rulesErr rs = 0) (hq : whoOk q = true) (h0 : 0 ≤ q.role ∧ q.role < 3) : seesErr up3 rs q = 0 := by
  unfold seesErr allErr
  rw [roles3, hr, hq]
  have : (up3.length : Int) = 3 := rfl
  simp
  omega
/-- Two servers that are one to who may see no kinds but s, ruled well. -/
structure Two (s : Int) (a b : Srv) : Prop where
  lo : Lo s a b
  up : a.up = up3
  rules : rulesErr a.rules = 0
theorem Two.upb {s : Int} {a b : Srv} (h : Two s a b) : b.up = up3 := h.lo.up.symm.trans h.up
theorem do_up (a : Srv) (o : OpV) (hk : o.kind = 1 ∨ o.kind = 2 ∨ o.kind = 3 ∨ o.kind = 4 ∨ o.kind = 5 ∨ o.kind = 6) : (doS a o).1.up = a.up := by
  rcases hk with hk | hk | hk | hk
  · rw [doS_rules hk]; show (if _ then _ else _ : Srv).up = _; split <;> rfl
  · rw [doS_put hk]; show (if _ then _ else _ : Srv).up = _; split <;> rfl
  · rw [doS_cut hk]; show (if _ then _ else _ : Srv).up = _; split <;> rfl
  · rw [doS_look hk]
theorem do_rules {a : Srv} {o : OpV} (ho : OpFit o) (ha : rulesErr a.rules = 0) : rulesErr (doS a o).1.rules = 0 := by
  rcases ho.kind with hk | hk | hk | hk
  · rw [doS_rules hk]; show rulesErr (if _ then _ else _ : Srv).rules = _; rw [if_pos (ho.rules hk)]; exact ho.rules hk
  · rw [doS_put hk]; show rulesErr (if _ then _ else _ : Srv).rules = _; split <;> exact ha
  · rw [doS_cut hk]; show rulesErr (if _ then _ else _ : Srv).rules = _; split <;> exact ha
  · rw [doS_look hk]; exact ha
def hides (s : Int) (o : OpV) : Bool := (o.kind == 2 || o.kind == 3) && !part o.r.cats s
theorem hides_k {s : Int} {o : OpV} (h : hides s o = true) : (o.kind = 2 ∨ o.kind = 3) ∧ part o.r.cats s = false := by
  unfold hides at h
  simpa using h
theorem Two.hid {s : Int} {a b : Srv} (h : Two s a b) {o : OpV} (ho : hides s o = true) (hk : OpFit o) : Two s (doS a o).1 b :=
  ⟨lo_hidden h.lo (hides_k ho).1 (hides_k ho).2, (do_up a o hk.kind).trans h.up, do_rules hk h.rules⟩
theorem Two.hid2 {s : Int} {a b : Srv} (h : Two s a b) {o : OpV} (ho : hides s o = true) (_hk : OpFit o) : Two s a (doS b o).1 :=
  ⟨(lo_hidden h.lo.symm (hides_k ho).1 (hides_k ho).2).symm, h.up, h.rules⟩
theorem not_hides {s : Int} {o : OpV} (h : hides s o = false) (hk : o.kind = 2 ∨ o.kind = 3) : part o.r.cats s = true := by
  unfold hides at h
  rcases hk with hk | hk <;> simpa [hk] using h
theorem Two.both {s : Int} {a b : Srv} (h : Two s a b) {o : OpV} (ho : hides s o = false) (hk : OpFit o) : Two s (doS a o).1 (doS b o).1 :=
  ⟨(lo_do h.lo hk.kind (not_hides ho)).1, (do_up a o hk.kind).trans h.up, do_rules hk h.rules⟩
theorem Two.told {s : Int} {a b : Srv} (h : Two s a b) {o : OpV} (ho : hides s o = false) (hk : OpFit o) (hs : o.kind = 2 ∨ o.kind = 3 ∨ part (seesV a.up a.rules o.who) s = true) : (doS a o).2 = (doS b o).2 :=
  (lo_do h.lo hk.kind (not_hides ho)).2 hs
def srv0 : Srv := ⟨up3, rules0, [], [], .slice none 0 0⟩
theorem two0 (s : Int) : Two s srv0 srv0 := ⟨⟨rfl, rfl, rfl, by decide, by decide, rfl⟩, rfl, by decide⟩
end Go.Proofs.WK
namespace Go.Proofs.WK
open Go.RowKit Rp
set_option maxRecDepth 100000 in
theorem topBegun (w : World) : Calls Tryz.prog 9 #[] w fun e w' => e = .returned (.bool true) ∧ Below w.heap.size w w' := by
  go_enter Tryz.func9, Tryz.ntmps9
  go_wp2_with fail
  refine (storePut none 0 [] ⟨⟨#[97]⟩, 0, [], []⟩ none none 0 0 (fun _ => False) (fun _ => False) (fun _ => False) _ Row.nil (Nat.le_refl _) Row.nil (Nat.le_refl _) Row.nil (Nat.le_refl _)).mono ?_
  rw [show putErr [] ⟨⟨#[97]⟩, 0, [], []⟩ = 0 by decide +kernel, show putV [] ⟨⟨#[97]⟩, 0, [], []⟩ = [⟨⟨⟨#[97]⟩, 0, [], []⟩, false⟩] by decide +kernel]
  rintro e w1 ⟨v, rfl, s1, hb⟩
  obtain ⟨X, d, rfl⟩ := Sl.form s1
  have HB := Aside.mk hb
  clear s1 hb
  go_wp2_with fail
  go_ret
  exact ⟨rfl, HB.out⟩
def oRules : OpV := ⟨1, ⟨0, 0, 0⟩, rules0, ⟨⟨#[]⟩, 0, [], []⟩, ⟨#[]⟩, ⟨⟨#[]⟩, ⟨#[]⟩⟩⟩
theorem rulesLit (w : World) (l : List Rul) (hl : l.length ≤ 9) : rulR.Row (w.alloc (.cells (l.flatMap rulC).toArray 89)) (fun k => k = w.heap.size) (some ⟨w.heap.size, 0, none⟩) l := by
  have hrep : ∀ l : List Rul, Reps (rulR.K w (fun _ => False)) rulR.sz l (l.flatMap rulC) := by
    intro l
    induction l with
    | nil => exact ⟨rfl, fun j p hp => by simp at hp⟩
    | cons x l ih =>
      have h := Reps.append (Reps.snoc (ps := []) (cs := []) (R := rulR.K w (fun _ => False)) (size := rulR.sz) ⟨rfl, fun j p hp => by simp at hp⟩ ((rulK (w := w) (ok := fun _ => False) (x := x) (cs := rulC x)).2 rfl) rfl) ih
      simpa using h
  have h := (Own.lit rulR 89 w 0 (fun _ => False) (Nat.zero_le _) (hrep l) (by omega)).row.2.2
  exact h.mono fun k hk _ => hk.elim False.elim fun e => by simpa [Value.ownBlock] using e.symm
theorem doRules0 : doS ⟨up3, [], [], [], .slice none 0 0⟩ oRules = (srv0, .err 0) := by
  rw [doS_rules rfl, show rulesErr oRules.rules = 0 by decide]
  rfl
set_option maxHeartbeats 1600000 in
set_option maxRecDepth 100000 in
theorem topBegan (w : World) : Calls Tryz.prog 10 #[] w fun e w' => ∃ g, w.heap.size ≤ g ∧ e = .returned (.tuple #[.pointer (some ⟨g, 0, none⟩), .bool true]) ∧ SrvIs w' g (fun k => w.heap.size ≤ k ∧ k ≠ g) srv0 ∧ Below w.heap.size w w' := by
  have hl0 := (Own.lit int 3 w 0 (fun _ => False) (Nat.zero_le _) (reps_int w _ up3) (by decide)).row.2.2
  have HL := Aside.mk hl0
  have HB0 : Aside (Below w.heap.size w (w.alloc (.cells #[.int .i64 0, .int .i64 1, .int .i64 2] 3))) := ⟨(Below.refl _ _).alloc (Nat.le_refl _) _⟩
  clear hl0
  go_enter Tryz.func10, Tryz.ntmps10
  go_wp2_with fail
  refine (serverNew _ _ up3 _ _ HL.out roles3).mono ?_
  rintro e w1 ⟨hb, g, hg, rfl, hs⟩
  have hr := rulesLit w1 rules0 (by decide)
  have hal : Below w1.heap.size w1 (w1.alloc (.cells (rules0.flatMap rulC).toArray 89)) := (Below.refl _ _).alloc (Nat.le_refl _) _
  have hg1 : g < w1.heap.size := by obtain ⟨_, _, _, _, _, _, _, _, h0, _⟩ := hs; exact h0.lt
  have hg0 : w.heap.size ≤ g := Nat.le_trans HB0.out.size hg
  have HS := Aside.mk ((hs.more (F' := fun k => w.heap.size ≤ k ∧ k ≠ g) fun k hk _ => ⟨Nat.le_trans HB0.out.size hk.1, by omega⟩).below hal)
  have HR := Aside.mk hr
  have HB1 := Aside.mk (below_step (below_step HB0.out hb) hal)
  have HG := Aside.mk (And.intro hg0 hg1)
  clear hb hs hr hal hg hg1 hg0
  go_wp2_with fail
  refine (doAll g _ _ oRules (.inl rfl) _ 3 none 0 none 0 _ (fun _ => False) (fun _ => False) _ HS.out (fun k hk => hk.2) HR.out Row.nil (Nat.le_refl _) Row.nil (Nat.le_refl _)).mono ?_
  rintro e w2 ⟨v1, v2, rfl, s1, s2, hs, hg⟩
  rw [doRules0] at s1 s2 hs
  rw [doRules0]
  obtain ⟨X1, d1, rfl⟩ := Sl.form s1
  obtain ⟨X2, d2, rfl⟩ := Sl.form s2
  have HS2 := Aside.mk (hs.more (F' := fun k => w.heap.size ≤ k ∧ k ≠ g) fun k hk _ => hk.elim (fun h => h) fun h => ⟨Nat.le_trans HB1.out.size h, by have := HG.out.2; simp at h; omega⟩)
  have HB2 := Aside.mk (HB1.out.grown hg (Nat.le_trans (Nat.le_refl _) HB1.out.size) (fun k hk => by injection hk with hk; have := HG.out; omega))
  clear s1 s2 hs hg
  go_wp2_with fail
  go_quiet (fail)
  go_wp2_with fail
  go_ret2
  exact ⟨g, HG.out.1, rfl, (HS2.out.below ((Below.refl _ _).alloc (Nat.le_refl _) _)).below (below_drewN (Below.refl _ _) _), below_step (HB2.out.alloc HB2.out.size _) (below_drewN (Below.refl _ _) _)⟩
end Go.Proofs.WK
namespace Go.Proofs.WK
open Go.RowKit Rp
theorem set_ne {L : Array Bool} {i j : Nat} (h : i ≠ j) (h1 : (L.setIfInBounds i true)[j]? = some true) : L[j]? = some true := by
  rwa [Array.getElem?_setIfInBounds_ne h] at h1
structure R8 (B : Nat) (bd : Addr) (m d : Nat) (x y : Int) (q : Who) (id : ByteArray) (i8 i2 : Nat) (L : Array Bool) (w : World) (u42 u43 u44 u45 u46 u47 u48 u49 u50 u51 u52 u53 u54 u55 u56 u57 u58 u59 u60 u61 u62 u63 u64 u65 u66 u67 u68 u8 : Value) : Prop where
  f0 : L[0]? = some true → ∃ n, u42 = .slice (some ⟨n, 0, none⟩) 8 8 ∧ B ≤ n ∧ Bk w n (kindsL.map (Value.int .i64))
  f1 : L[1]? = some true → u43 = .slice (some bd) m d
  f2 : L[2]? = some true → u44 = .pointer (some bd)
  f3 : L[3]? = some true → u45 = .int .i64 x
  f4 : L[4]? = some true → u46 = .int .i64 (IntKind.i64.wrap (x.tdiv 3))
  f5 : L[5]? = some true → u47 = .int .i64 (i8 : Nat)
  f6 : L[6]? = some true → ∃ n, u48 = .pointer (some ⟨n, i8, none⟩) ∧ B ≤ n ∧ Bk w n (kindsL.map (Value.int .i64))
  f7 : L[7]? = some true → u49 = .int .i64 (kindsL[i8]?.getD 0)
  f8 : L[8]? = some true → u50 = .agg #[.int .i64 q.role, .int .i64 q.why, .int .i64 q.time]
  f9 : L[9]? = some true → u51 = .string id
  f10 : L[10]? = some true → u52 = .string id
  f11 : L[11]? = some true → u53 = .slice (some bd) m d
  f12 : L[12]? = some true → u54 = .pointer (some ⟨bd.block, bd.off + 1, none⟩)
  f13 : L[13]? = some true → u55 = .int .i64 y
  f14 : L[14]? = some true → u56 = .int .i64 (withinV y 8)
  f15 : L[15]? = some true → ∃ n, u57 = .slice (some ⟨n, 0, none⟩) 2 2 ∧ B ≤ n ∧ Bk w n (xyS.map Value.string)
  f16 : L[16]? = some true → u58 = .slice (some bd) m d
  f17 : L[17]? = some true → u59 = .pointer (some ⟨bd.block, bd.off + 1, none⟩)
  f18 : L[18]? = some true → u60 = .int .i64 y
  f19 : L[19]? = some true → u61 = .int .i64 (i2 : Nat)
  f20 : L[20]? = some true → ∃ n, u62 = .pointer (some ⟨n, i2, none⟩) ∧ B ≤ n ∧ Bk w n (xyS.map Value.string)
  f21 : L[21]? = some true → u63 = .string (xyS[i2]?.getD ⟨#[]⟩)
  f22 : L[22]? = some true → u64 = .agg #[.string ⟨#[107]⟩, .string (xyS[i2]?.getD ⟨#[]⟩)]
  f23 : L[23]? = some true → ∃ n, u65 = .slice (some ⟨n, 0, none⟩) 1 1 ∧ B ≤ n ∧ Bk w n [.string ⟨#[107]⟩, .string (xyS[i2]?.getD ⟨#[]⟩)]
  f24 : L[24]? = some true → ∃ n, u66 = .agg #[.string id, .int .i64 (withinV y 8), .slice (some ⟨n, 0, none⟩) 1 1, .slice none 0 0] ∧ B ≤ n ∧ Bk w n [.string ⟨#[107]⟩, .string (xyS[i2]?.getD ⟨#[]⟩)]
  f25 : L[25]? = some true → u67 = .agg #[.string ⟨#[107]⟩, .string ⟨#[120]⟩]
  f26 : L[26]? = some true → ∃ n, u68 = .agg #[.int .i64 (kindsL[i8]?.getD 0), .int .i64 q.role, .int .i64 q.why, .int .i64 q.time, .slice none 0 0, .string id, .int .i64 (withinV y 8), .slice (some ⟨n, 0, none⟩) 1 1, .slice none 0 0, .string id, .string ⟨#[107]⟩, .string ⟨#[120]⟩] ∧ B ≤ n ∧ Bk w n [.string ⟨#[107]⟩, .string (xyS[i2]?.getD ⟨#[]⟩)]
  f27 : L[27]? = some true → ∃ n, u8 = .pointer (some ⟨n, 0, none⟩) ∧ B ≤ n ∧ Bk w n [.int .i64 0, .int .i64 0, .int .i64 0, .int .i64 0, .slice none 0 0, .string ByteArray.empty, .int .i64 0, .slice none 0 0, .slice none 0 0, .string ByteArray.empty, .string ByteArray.empty, .string ByteArray.empty]
variable {B : Nat} {bd : Addr} {m d : Nat} {x y : Int} {q : Who} {id : ByteArray} {i8 i2 : Nat} {L : Array Bool} {w w' : World} {u42 u43 u44 u45 u46 u47 u48 u49 u50 u51 u52 u53 u54 u55 u56 u57 u58 u59 u60 u61 u62 u63 u64 u65 u66 u67 u68 u8 : Value}
theorem R8.below (h : R8 B bd m d x y q id i8 i2 L w u42 u43 u44 u45 u46 u47 u48 u49 u50 u51 u52 u53 u54 u55 u56 u57 u58 u59 u60 u61 u62 u63 u64 u65 u66 u67 u68 u8) (hb : Below w.heap.size w w') : R8 B bd m d x y q id i8 i2 L w' u42 u43 u44 u45 u46 u47 u48 u49 u50 u51 u52 u53 u54 u55 u56 u57 u58 u59 u60 u61 u62 u63 u64 u65 u66 u67 u68 u8 :=
  { h with
    f0 := fun k => by obtain ⟨n, e, h1, h2⟩ := h.f0 k; exact ⟨n, e, h1, h2.below hb⟩
    f6 := fun k => by obtain ⟨n, e, h1, h2⟩ := h.f6 k; exact ⟨n, e, h1, h2.below hb⟩
    f15 := fun k => by obtain ⟨n, e, h1, h2⟩ := h.f15 k; exact ⟨n, e, h1, h2.below hb⟩
    f20 := fun k => by obtain ⟨n, e, h1, h2⟩ := h.f20 k; exact ⟨n, e, h1, h2.below hb⟩
    f23 := fun k => by obtain ⟨n, e, h1, h2⟩ := h.f23 k; exact ⟨n, e, h1, h2.below hb⟩
    f24 := fun k => by obtain ⟨n, e, h1, h2⟩ := h.f24 k; exact ⟨n, e, h1, h2.below hb⟩
    f26 := fun k => by obtain ⟨n, e, h1, h2⟩ := h.f26 k; exact ⟨n, e, h1, h2.below hb⟩
    f27 := fun k => by obtain ⟨n, e, h1, h2⟩ := h.f27 k; exact ⟨n, e, h1, h2.below hb⟩
  }
theorem R8.init (h : ∀ j : Nat, L[j]? ≠ some true) : R8 B bd m d x y q id i8 i2 L w u42 u43 u44 u45 u46 u47 u48 u49 u50 u51 u52 u53 u54 u55 u56 u57 u58 u59 u60 u61 u62 u63 u64 u65 u66 u67 u68 u8 :=
  ⟨fun k => absurd k (h 0), fun k => absurd k (h 1), fun k => absurd k (h 2), fun k => absurd k (h 3), fun k => absurd k (h 4), fun k => absurd k (h 5), fun k => absurd k (h 6), fun k => absurd k (h 7), fun k => absurd k (h 8), fun k => absurd k (h 9), fun k => absurd k (h 10), fun k => absurd k (h 11), fun k => absurd k (h 12), fun k => absurd k (h 13), fun k => absurd k (h 14), fun k => absurd k (h 15), fun k => absurd k (h 16), fun k => absurd k (h 17), fun k => absurd k (h 18), fun k => absurd k (h 19), fun k => absurd k (h 20), fun k => absurd k (h 21), fun k => absurd k (h 22), fun k => absurd k (h 23), fun k => absurd k (h 24), fun k => absurd k (h 25), fun k => absurd k (h 26), fun k => absurd k (h 27)⟩
theorem R8.set0 (h : R8 B bd m d x y q id i8 i2 L w u42 u43 u44 u45 u46 u47 u48 u49 u50 u51 u52 u53 u54 u55 u56 u57 u58 u59 u60 u61 u62 u63 u64 u65 u66 u67 u68 u8) {v : Value} (hv : ∃ n, v = .slice (some ⟨n, 0, none⟩) 8 8 ∧ B ≤ n ∧ Bk w n (kindsL.map (Value.int .i64))) : R8 B bd m d x y q id i8 i2 (L.setIfInBounds 0 true) w v u43 u44 u45 u46 u47 u48 u49 u50 u51 u52 u53 u54 u55 u56 u57 u58 u59 u60 u61 u62 u63 u64 u65 u66 u67 u68 u8 :=
  ⟨fun _ => hv, fun k => h.f1 (set_ne (by decide) k), fun k => h.f2 (set_ne (by decide) k), fun k => h.f3 (set_ne (by decide) k), fun k => h.f4 (set_ne (by decide) k), fun k => h.f5 (set_ne (by decide) k), fun k => h.f6 (set_ne (by decide) k), fun k => h.f7 (set_ne (by decide) k), fun k => h.f8 (set_ne (by decide) k), fun k => h.f9 (set_ne (by decide) k), fun k => h.f10 (set_ne (by decide) k), fun k => h.f11 (set_ne (by decide) k), fun k => h.f12 (set_ne (by decide) k), fun k => h.f13 (set_ne (by decide) k), fun k => h.f14 (set_ne (by decide) k), fun k => h.f15 (set_ne (by decide) k), fun k => h.f16 (set_ne (by decide) k), fun k => h.f17 (set_ne (by decide) k), fun k => h.f18 (set_ne (by decide) k), fun k => h.f19 (set_ne (by decide) k), fun k => h.f20 (set_ne (by decide) k), fun k => h.f21 (set_ne (by decide) k), fun k => h.f22 (set_ne (by decide) k), fun k => h.f23 (set_ne (by decide) k), fun k => h.f24 (set_ne (by decide) k), fun k => h.f25 (set_ne (by decide) k), fun k => h.f26 (set_ne (by decide) k), fun k => h.f27 (set_ne (by decide) k)⟩
theorem R8.set1 (h : R8 B bd m d x y q id i8 i2 L w u42 u43 u44 u45 u46 u47 u48 u49 u50 u51 u52 u53 u54 u55 u56 u57 u58 u59 u60 u61 u62 u63 u64 u65 u66 u67 u68 u8) {v : Value} (hv : v = .slice (some bd) m d) : R8 B bd m d x y q id i8 i2 (L.setIfInBounds 1 true) w u42 v u44 u45 u46 u47 u48 u49 u50 u51 u52 u53 u54 u55 u56 u57 u58 u59 u60 u61 u62 u63 u64 u65 u66 u67 u68 u8 :=
  ⟨fun k => h.f0 (set_ne (by decide) k), fun _ => hv, fun k => h.f2 (set_ne (by decide) k), fun k => h.f3 (set_ne (by decide) k), fun k => h.f4 (set_ne (by decide) k), fun k => h.f5 (set_ne (by decide) k), fun k => h.f6 (set_ne (by decide) k), fun k => h.f7 (set_ne (by decide) k), fun k => h.f8 (set_ne (by decide) k), fun k => h.f9 (set_ne (by decide) k), fun k => h.f10 (set_ne (by decide) k), fun k => h.f11 (set_ne (by decide) k), fun k => h.f12 (set_ne (by decide) k), fun k => h.f13 (set_ne (by decide) k), fun k => h.f14 (set_ne (by decide) k), fun k => h.f15 (set_ne (by decide) k), fun k => h.f16 (set_ne (by decide) k), fun k => h.f17 (set_ne (by decide) k), fun k => h.f18 (set_ne (by decide) k), fun k => h.f19 (set_ne (by decide) k), fun k => h.f20 (set_ne (by decide) k), fun k => h.f21 (set_ne (by decide) k), fun k => h.f22 (set_ne (by decide) k), fun k => h.f23 (set_ne (by decide) k), fun k => h.f24 (set_ne (by decide) k), fun k => h.f25 (set_ne (by decide) k), fun k => h.f26 (set_ne (by decide) k), fun k => h.f27 (set_ne (by decide) k)⟩
theorem R8.set2 (h : R8 B bd m d x y q id i8 i2 L w u42 u43 u44 u45 u46 u47 u48 u49 u50 u51 u52 u53 u54 u55 u56 u57 u58 u59 u60 u61 u62 u63 u64 u65 u66 u67 u68 u8) {v : Value} (hv : v = .pointer (some bd)) : R8 B bd m d x y q id i8 i2 (L.setIfInBounds 2 true) w u42 u43 v u45 u46 u47 u48 u49 u50 u51 u52 u53 u54 u55 u56 u57 u58 u59 u60 u61 u62 u63 u64 u65 u66 u67 u68 u8 :=
  ⟨fun k => h.f0 (set_ne (by decide) k), fun k => h.f1 (set_ne (by decide) k), fun _ => hv, fun k => h.f3 (set_ne (by decide) k), fun k => h.f4 (set_ne (by decide) k), fun k => h.f5 (set_ne (by decide) k), fun k => h.f6 (set_ne (by decide) k), fun k => h.f7 (set_ne (by decide) k), fun k => h.f8 (set_ne (by decide) k), fun k => h.f9 (set_ne (by decide) k), fun k => h.f10 (set_ne (by decide) k), fun k => h.f11 (set_ne (by decide) k), fun k => h.f12 (set_ne (by decide) k), fun k => h.f13 (set_ne (by decide) k), fun k => h.f14 (set_ne (by decide) k), fun k => h.f15 (set_ne (by decide) k), fun k => h.f16 (set_ne (by decide) k), fun k => h.f17 (set_ne (by decide) k), fun k => h.f18 (set_ne (by decide) k), fun k => h.f19 (set_ne (by decide) k), fun k => h.f20 (set_ne (by decide) k), fun k => h.f21 (set_ne (by decide) k), fun k => h.f22 (set_ne (by decide) k), fun k => h.f23 (set_ne (by decide) k), fun k => h.f24 (set_ne (by decide) k), fun k => h.f25 (set_ne (by decide) k), fun k => h.f26 (set_ne (by decide) k), fun k => h.f27 (set_ne (by decide) k)⟩
theorem R8.set3 (h : R8 B bd m d x y q id i8 i2 L w u42 u43 u44 u45 u46 u47 u48 u49 u50 u51 u52 u53 u54 u55 u56 u57 u58 u59 u60 u61 u62 u63 u64 u65 u66 u67 u68 u8) {v : Value} (hv : v = .int .i64 x) : R8 B bd m d x y q id i8 i2 (L.setIfInBounds 3 true) w u42 u43 u44 v u46 u47 u48 u49 u50 u51 u52 u53 u54 u55 u56 u57 u58 u59 u60 u61 u62 u63 u64 u65 u66 u67 u68 u8 :=
  ⟨fun k => h.f0 (set_ne (by decide) k), fun k => h.f1 (set_ne (by decide) k), fun k => h.f2 (set_ne (by decide) k), fun _ => hv, fun k => h.f4 (set_ne (by decide) k), fun k => h.f5 (set_ne (by decide) k), fun k => h.f6 (set_ne (by decide) k), fun k => h.f7 (set_ne (by decide) k), fun k => h.f8 (set_ne (by decide) k), fun k => h.f9 (set_ne (by decide) k), fun k => h.f10 (set_ne (by decide) k), fun k => h.f11 (set_ne (by decide) k), fun k => h.f12 (set_ne (by decide) k), fun k => h.f13 (set_ne (by decide) k), fun k => h.f14 (set_ne (by decide) k), fun k => h.f15 (set_ne (by decide) k), fun k => h.f16 (set_ne (by decide) k), fun k => h.f17 (set_ne (by decide) k), fun k => h.f18 (set_ne (by decide) k), fun k => h.f19 (set_ne (by decide) k), fun k => h.f20 (set_ne (by decide) k), fun k => h.f21 (set_ne (by decide) k), fun k => h.f22 (set_ne (by decide) k), fun k => h.f23 (set_ne (by decide) k), fun k => h.f24 (set_ne (by decide) k), fun k => h.f25 (set_ne (by decide) k), fun k => h.f26 (set_ne (by decide) k), fun k => h.f27 (set_ne (by decide) k)⟩
theorem R8.set4 (h : R8 B bd m d x y q id i8 i2 L w u42 u43 u44 u45 u46 u47 u48 u49 u50 u51 u52 u53 u54 u55 u56 u57 u58 u59 u60 u61 u62 u63 u64 u65 u66 u67 u68 u8) {v : Value} (hv : v = .int .i64 (IntKind.i64.wrap (x.tdiv 3))) : R8 B bd m d x y q id i8 i2 (L.setIfInBounds 4 true) w u42 u43 u44 u45 v u47 u48 u49 u50 u51 u52 u53 u54 u55 u56 u57 u58 u59 u60 u61 u62 u63 u64 u65 u66 u67 u68 u8 :=
  ⟨fun k => h.f0 (set_ne (by decide) k), fun k => h.f1 (set_ne (by decide) k), fun k => h.f2 (set_ne (by decide) k), fun k => h.f3 (set_ne (by decide) k), fun _ => hv, fun k => h.f5 (set_ne (by decide) k), fun k => h.f6 (set_ne (by decide) k), fun k => h.f7 (set_ne (by decide) k), fun k => h.f8 (set_ne (by decide) k), fun k => h.f9 (set_ne (by decide) k), fun k => h.f10 (set_ne (by decide) k), fun k => h.f11 (set_ne (by decide) k), fun k => h.f12 (set_ne (by decide) k), fun k => h.f13 (set_ne (by decide) k), fun k => h.f14 (set_ne (by decide) k), fun k => h.f15 (set_ne (by decide) k), fun k => h.f16 (set_ne (by decide) k), fun k => h.f17 (set_ne (by decide) k), fun k => h.f18 (set_ne (by decide) k), fun k => h.f19 (set_ne (by decide) k), fun k => h.f20 (set_ne (by decide) k), fun k => h.f21 (set_ne (by decide) k), fun k => h.f22 (set_ne (by decide) k), fun k => h.f23 (set_ne (by decide) k), fun k => h.f24 (set_ne (by decide) k), fun k => h.f25 (set_ne (by decide) k), fun k => h.f26 (set_ne (by decide) k), fun k => h.f27 (set_ne (by decide) k)⟩
theorem R8.set5 (h : R8 B bd m d x y q id i8 i2 L w u42 u43 u44 u45 u46 u47 u48 u49 u50 u51 u52 u53 u54 u55 u56 u57 u58 u59 u60 u61 u62 u63 u64 u65 u66 u67 u68 u8) {v : Value} (hv : v = .int .i64 (i8 : Nat)) : R8 B bd m d x y q id i8 i2 (L.setIfInBounds 5 true) w u42 u43 u44 u45 u46 v u48 u49 u50 u51 u52 u53 u54 u55 u56 u57 u58 u59 u60 u61 u62 u63 u64 u65 u66 u67 u68 u8 :=
  ⟨fun k => h.f0 (set_ne (by decide) k), fun k => h.f1 (set_ne (by decide) k), fun k => h.f2 (set_ne (by decide) k), fun k => h.f3 (set_ne (by decide) k), fun k => h.f4 (set_ne (by decide) k), fun _ => hv, fun k => h.f6 (set_ne (by decide) k), fun k => h.f7 (set_ne (by decide) k), fun k => h.f8 (set_ne (by decide) k), fun k => h.f9 (set_ne (by decide) k), fun k => h.f10 (set_ne (by decide) k), fun k => h.f11 (set_ne (by decide) k), fun k => h.f12 (set_ne (by decide) k), fun k => h.f13 (set_ne (by decide) k), fun k => h.f14 (set_ne (by decide) k), fun k => h.f15 (set_ne (by decide) k), fun k => h.f16 (set_ne (by decide) k), fun k => h.f17 (set_ne (by decide) k), fun k => h.f18 (set_ne (by decide) k), fun k => h.f19 (set_ne (by decide) k), fun k => h.f20 (set_ne (by decide) k), fun k => h.f21 (set_ne (by decide) k), fun k => h.f22 (set_ne (by decide) k), fun k => h.f23 (set_ne (by decide) k), fun k => h.f24 (set_ne (by decide) k), fun k => h.f25 (set_ne (by decide) k), fun k => h.f26 (set_ne (by decide) k), fun k => h.f27 (set_ne (by decide) k)⟩
theorem R8.set6 (h : R8 B bd m d x y q id i8 i2 L w u42 u43 u44 u45 u46 u47 u48 u49 u50 u51 u52 u53 u54 u55 u56 u57 u58 u59 u60 u61 u62 u63 u64 u65 u66 u67 u68 u8) {v : Value} (hv : ∃ n, v = .pointer (some ⟨n, i8, none⟩) ∧ B ≤ n ∧ Bk w n (kindsL.map (Value.int .i64))) : R8 B bd m d x y q id i8 i2 (L.setIfInBounds 6 true) w u42 u43 u44 u45 u46 u47 v u49 u50 u51 u52 u53 u54 u55 u56 u57 u58 u59 u60 u61 u62 u63 u64 u65 u66 u67 u68 u8 :=
  ⟨fun k => h.f0 (set_ne (by decide) k), fun k => h.f1 (set_ne (by decide) k), fun k => h.f2 (set_ne (by decide) k), fun k => h.f3 (set_ne (by decide) k), fun k => h.f4 (set_ne (by decide) k), fun k => h.f5 (set_ne (by decide) k), fun _ => hv, fun k => h.f7 (set_ne (by decide) k), fun k => h.f8 (set_ne (by decide) k), fun k => h.f9 (set_ne (by decide) k), fun k => h.f10 (set_ne (by decide) k), fun k => h.f11 (set_ne (by decide) k), fun k => h.f12 (set_ne (by decide) k), fun k => h.f13 (set_ne (by decide) k), fun k => h.f14 (set_ne (by decide) k), fun k => h.f15 (set_ne (by decide) k), fun k => h.f16 (set_ne (by decide) k), fun k => h.f17 (set_ne (by decide) k), fun k => h.f18 (set_ne (by decide) k), fun k => h.f19 (set_ne (by decide) k), fun k => h.f20 (set_ne (by decide) k), fun k => h.f21 (set_ne (by decide) k), fun k => h.f22 (set_ne (by decide) k), fun k => h.f23 (set_ne (by decide) k), fun k => h.f24 (set_ne (by decide) k), fun k => h.f25 (set_ne (by decide) k), fun k => h.f26 (set_ne (by decide) k), fun k => h.f27 (set_ne (by decide) k)⟩
theorem R8.set7 (h : R8 B bd m d x y q id i8 i2 L w u42 u43 u44 u45 u46 u47 u48 u49 u50 u51 u52 u53 u54 u55 u56 u57 u58 u59 u60 u61 u62 u63 u64 u65 u66 u67 u68 u8) {v : Value} (hv : v = .int .i64 (kindsL[i8]?.getD 0)) : R8 B bd m d x y q id i8 i2 (L.setIfInBounds 7 true) w u42 u43 u44 u45 u46 u47 u48 v u50 u51 u52 u53 u54 u55 u56 u57 u58 u59 u60 u61 u62 u63 u64 u65 u66 u67 u68 u8 :=
  ⟨fun k => h.f0 (set_ne (by decide) k), fun k => h.f1 (set_ne (by decide) k), fun k => h.f2 (set_ne (by decide) k), fun k => h.f3 (set_ne (by decide) k), fun k => h.f4 (set_ne (by decide) k), fun k => h.f5 (set_ne (by decide) k), fun k => h.f6 (set_ne (by decide) k), fun _ => hv, fun k => h.f8 (set_ne (by decide) k), fun k => h.f9 (set_ne (by decide) k), fun k => h.f10 (set_ne (by decide) k), fun k => h.f11 (set_ne (by decide) k), fun k => h.f12 (set_ne (by decide) k), fun k => h.f13 (set_ne (by decide) k), fun k => h.f14 (set_ne (by decide) k), fun k => h.f15 (set_ne (by decide) k), fun k => h.f16 (set_ne (by decide) k), fun k => h.f17 (set_ne (by decide) k), fun k => h.f18 (set_ne (by decide) k), fun k => h.f19 (set_ne (by decide) k), fun k => h.f20 (set_ne (by decide) k), fun k => h.f21 (set_ne (by decide) k), fun k => h.f22 (set_ne (by decide) k), fun k => h.f23 (set_ne (by decide) k), fun k => h.f24 (set_ne (by decide) k), fun k => h.f25 (set_ne (by decide) k), fun k => h.f26 (set_ne (by decide) k), fun k => h.f27 (set_ne (by decide) k)⟩
theorem R8.set8 (h : R8 B bd m d x y q id i8 i2 L w u42 u43 u44 u45 u46 u47 u48 u49 u50 u51 u52 u53 u54 u55 u56 u57 u58 u59 u60 u61 u62 u63 u64 u65 u66 u67 u68 u8) {v : Value} (hv : v = .agg #[.int .i64 q.role, .int .i64 q.why, .int .i64 q.time]) : R8 B bd m d x y q id i8 i2 (L.setIfInBounds 8 true) w u42 u43 u44 u45 u46 u47 u48 u49 v u51 u52 u53 u54 u55 u56 u57 u58 u59 u60 u61 u62 u63 u64 u65 u66 u67 u68 u8 :=
  ⟨fun k => h.f0 (set_ne (by decide) k), fun k => h.f1 (set_ne (by decide) k), fun k => h.f2 (set_ne (by decide) k), fun k => h.f3 (set_ne (by decide) k), fun k => h.f4 (set_ne (by decide) k), fun k => h.f5 (set_ne (by decide) k), fun k => h.f6 (set_ne (by decide) k), fun k => h.f7 (set_ne (by decide) k), fun _ => hv, fun k => h.f9 (set_ne (by decide) k), fun k => h.f10 (set_ne (by decide) k), fun k => h.f11 (set_ne (by decide) k), fun k => h.f12 (set_ne (by decide) k), fun k => h.f13 (set_ne (by decide) k), fun k => h.f14 (set_ne (by decide) k), fun k => h.f15 (set_ne (by decide) k), fun k => h.f16 (set_ne (by decide) k), fun k => h.f17 (set_ne (by decide) k), fun k => h.f18 (set_ne (by decide) k), fun k => h.f19 (set_ne (by decide) k), fun k => h.f20 (set_ne (by decide) k), fun k => h.f21 (set_ne (by decide) k), fun k => h.f22 (set_ne (by decide) k), fun k => h.f23 (set_ne (by decide) k), fun k => h.f24 (set_ne (by decide) k), fun k => h.f25 (set_ne (by decide) k), fun k => h.f26 (set_ne (by decide) k), fun k => h.f27 (set_ne (by decide) k)⟩
theorem R8.set9 (h : R8 B bd m d x y q id i8 i2 L w u42 u43 u44 u45 u46 u47 u48 u49 u50 u51 u52 u53 u54 u55 u56 u57 u58 u59 u60 u61 u62 u63 u64 u65 u66 u67 u68 u8) {v : Value} (hv : v = .string id) : R8 B bd m d x y q id i8 i2 (L.setIfInBounds 9 true) w u42 u43 u44 u45 u46 u47 u48 u49 u50 v u52 u53 u54 u55 u56 u57 u58 u59 u60 u61 u62 u63 u64 u65 u66 u67 u68 u8 :=
  ⟨fun k => h.f0 (set_ne (by decide) k), fun k => h.f1 (set_ne (by decide) k), fun k => h.f2 (set_ne (by decide) k), fun k => h.f3 (set_ne (by decide) k), fun k => h.f4 (set_ne (by decide) k), fun k => h.f5 (set_ne (by decide) k), fun k => h.f6 (set_ne (by decide) k), fun k => h.f7 (set_ne (by decide) k), fun k => h.f8 (set_ne (by decide) k), fun _ => hv, fun k => h.f10 (set_ne (by decide) k), fun k => h.f11 (set_ne (by decide) k), fun k => h.f12 (set_ne (by decide) k), fun k => h.f13 (set_ne (by decide) k), fun k => h.f14 (set_ne (by decide) k), fun k => h.f15 (set_ne (by decide) k), fun k => h.f16 (set_ne (by decide) k), fun k => h.f17 (set_ne (by decide) k), fun k => h.f18 (set_ne (by decide) k), fun k => h.f19 (set_ne (by decide) k), fun k => h.f20 (set_ne (by decide) k), fun k => h.f21 (set_ne (by decide) k), fun k => h.f22 (set_ne (by decide) k), fun k => h.f23 (set_ne (by decide) k), fun k => h.f24 (set_ne (by decide) k), fun k => h.f25 (set_ne (by decide) k), fun k => h.f26 (set_ne (by decide) k), fun k => h.f27 (set_ne (by decide) k)⟩
theorem R8.set10 (h : R8 B bd m d x y q id i8 i2 L w u42 u43 u44 u45 u46 u47 u48 u49 u50 u51 u52 u53 u54 u55 u56 u57 u58 u59 u60 u61 u62 u63 u64 u65 u66 u67 u68 u8) {v : Value} (hv : v = .string id) : R8 B bd m d x y q id i8 i2 (L.setIfInBounds 10 true) w u42 u43 u44 u45 u46 u47 u48 u49 u50 u51 v u53 u54 u55 u56 u57 u58 u59 u60 u61 u62 u63 u64 u65 u66 u67 u68 u8 :=
  ⟨fun k => h.f0 (set_ne (by decide) k), fun k => h.f1 (set_ne (by decide) k), fun k => h.f2 (set_ne (by decide) k), fun k => h.f3 (set_ne (by decide) k), fun k => h.f4 (set_ne (by decide) k), fun k => h.f5 (set_ne (by decide) k), fun k => h.f6 (set_ne (by decide) k), fun k => h.f7 (set_ne (by decide) k), fun k => h.f8 (set_ne (by decide) k), fun k => h.f9 (set_ne (by decide) k), fun _ => hv, fun k => h.f11 (set_ne (by decide) k), fun k => h.f12 (set_ne (by decide) k), fun k => h.f13 (set_ne (by decide) k), fun k => h.f14 (set_ne (by decide) k), fun k => h.f15 (set_ne (by decide) k), fun k => h.f16 (set_ne (by decide) k), fun k => h.f17 (set_ne (by decide) k), fun k => h.f18 (set_ne (by decide) k), fun k => h.f19 (set_ne (by decide) k), fun k => h.f20 (set_ne (by decide) k), fun k => h.f21 (set_ne (by decide) k), fun k => h.f22 (set_ne (by decide) k), fun k => h.f23 (set_ne (by decide) k), fun k => h.f24 (set_ne (by decide) k), fun k => h.f25 (set_ne (by decide) k), fun k => h.f26 (set_ne (by decide) k), fun k => h.f27 (set_ne (by decide) k)⟩
theorem R8.set11 (h : R8 B bd m d x y q id i8 i2 L w u42 u43 u44 u45 u46 u47 u48 u49 u50 u51 u52 u53 u54 u55 u56 u57 u58 u59 u60 u61 u62 u63 u64 u65 u66 u67 u68 u8) {v : Value} (hv : v = .slice (some bd) m d) : R8 B bd m d x y q id i8 i2 (L.setIfInBounds 11 true) w u42 u43 u44 u45 u46 u47 u48 u49 u50 u51 u52 v u54 u55 u56 u57 u58 u59 u60 u61 u62 u63 u64 u65 u66 u67 u68 u8 :=
  ⟨fun k => h.f0 (set_ne (by decide) k), fun k => h.f1 (set_ne (by decide) k), fun k => h.f2 (set_ne (by decide) k), fun k => h.f3 (set_ne (by decide) k), fun k => h.f4 (set_ne (by decide) k), fun k => h.f5 (set_ne (by decide) k), fun k => h.f6 (set_ne (by decide) k), fun k => h.f7 (set_ne (by decide) k), fun k => h.f8 (set_ne (by decide) k), fun k => h.f9 (set_ne (by decide) k), fun k => h.f10 (set_ne (by decide) k), fun _ => hv, fun k => h.f12 (set_ne (by decide) k), fun k => h.f13 (set_ne (by decide) k), fun k => h.f14 (set_ne (by decide) k), fun k => h.f15 (set_ne (by decide) k), fun k => h.f16 (set_ne (by decide) k), fun k => h.f17 (set_ne (by decide) k), fun k => h.f18 (set_ne (by decide) k), fun k => h.f19 (set_ne (by decide) k), fun k => h.f20 (set_ne (by decide) k), fun k => h.f21 (set_ne (by decide) k), fun k => h.f22 (set_ne (by decide) k), fun k => h.f23 (set_ne (by decide) k), fun k => h.f24 (set_ne (by decide) k), fun k => h.f25 (set_ne (by decide) k), fun k => h.f26 (set_ne (by decide) k), fun k => h.f27 (set_ne (by decide) k)⟩
theorem R8.set12 (h : R8 B bd m d x y q id i8 i2 L w u42 u43 u44 u45 u46 u47 u48 u49 u50 u51 u52 u53 u54 u55 u56 u57 u58 u59 u60 u61 u62 u63 u64 u65 u66 u67 u68 u8) {v : Value} (hv : v = .pointer (some ⟨bd.block, bd.off + 1, none⟩)) : R8 B bd m d x y q id i8 i2 (L.setIfInBounds 12 true) w u42 u43 u44 u45 u46 u47 u48 u49 u50 u51 u52 u53 v u55 u56 u57 u58 u59 u60 u61 u62 u63 u64 u65 u66 u67 u68 u8 :=
  ⟨fun k => h.f0 (set_ne (by decide) k), fun k => h.f1 (set_ne (by decide) k), fun k => h.f2 (set_ne (by decide) k), fun k => h.f3 (set_ne (by decide) k), fun k => h.f4 (set_ne (by decide) k), fun k => h.f5 (set_ne (by decide) k), fun k => h.f6 (set_ne (by decide) k), fun k => h.f7 (set_ne (by decide) k), fun k => h.f8 (set_ne (by decide) k), fun k => h.f9 (set_ne (by decide) k), fun k => h.f10 (set_ne (by decide) k), fun k => h.f11 (set_ne (by decide) k), fun _ => hv, fun k => h.f13 (set_ne (by decide) k), fun k => h.f14 (set_ne (by decide) k), fun k => h.f15 (set_ne (by decide) k), fun k => h.f16 (set_ne (by decide) k), fun k => h.f17 (set_ne (by decide) k), fun k => h.f18 (set_ne (by decide) k), fun k => h.f19 (set_ne (by decide) k), fun k => h.f20 (set_ne (by decide) k), fun k => h.f21 (set_ne (by decide) k), fun k => h.f22 (set_ne (by decide) k), fun k => h.f23 (set_ne (by decide) k), fun k => h.f24 (set_ne (by decide) k), fun k => h.f25 (set_ne (by decide) k), fun k => h.f26 (set_ne (by decide) k), fun k => h.f27 (set_ne (by decide) k)⟩
theorem R8.set13 (h : R8 B bd m d x y q id i8 i2 L w u42 u43 u44 u45 u46 u47 u48 u49 u50 u51 u52 u53 u54 u55 u56 u57 u58 u59 u60 u61 u62 u63 u64 u65 u66 u67 u68 u8) {v : Value} (hv : v = .int .i64 y) : R8 B bd m d x y q id i8 i2 (L.setIfInBounds 13 true) w u42 u43 u44 u45 u46 u47 u48 u49 u50 u51 u52 u53 u54 v u56 u57 u58 u59 u60 u61 u62 u63 u64 u65 u66 u67 u68 u8 :=
  ⟨fun k => h.f0 (set_ne (by decide) k), fun k => h.f1 (set_ne (by decide) k), fun k => h.f2 (set_ne (by decide) k), fun k => h.f3 (set_ne (by decide) k), fun k => h.f4 (set_ne (by decide) k), fun k => h.f5 (set_ne (by decide) k), fun k => h.f6 (set_ne (by decide) k), fun k => h.f7 (set_ne (by decide) k), fun k => h.f8 (set_ne (by decide) k), fun k => h.f9 (set_ne (by decide) k), fun k => h.f10 (set_ne (by decide) k), fun k => h.f11 (set_ne (by decide) k), fun k => h.f12 (set_ne (by decide) k), fun _ => hv, fun k => h.f14 (set_ne (by decide) k), fun k => h.f15 (set_ne (by decide) k), fun k => h.f16 (set_ne (by decide) k), fun k => h.f17 (set_ne (by decide) k), fun k => h.f18 (set_ne (by decide) k), fun k => h.f19 (set_ne (by decide) k), fun k => h.f20 (set_ne (by decide) k), fun k => h.f21 (set_ne (by decide) k), fun k => h.f22 (set_ne (by decide) k), fun k => h.f23 (set_ne (by decide) k), fun k => h.f24 (set_ne (by decide) k), fun k => h.f25 (set_ne (by decide) k), fun k => h.f26 (set_ne (by decide) k), fun k => h.f27 (set_ne (by decide) k)⟩
theorem R8.set14 (h : R8 B bd m d x y q id i8 i2 L w u42 u43 u44 u45 u46 u47 u48 u49 u50 u51 u52 u53 u54 u55 u56 u57 u58 u59 u60 u61 u62 u63 u64 u65 u66 u67 u68 u8) {v : Value} (hv : v = .int .i64 (withinV y 8)) : R8 B bd m d x y q id i8 i2 (L.setIfInBounds 14 true) w u42 u43 u44 u45 u46 u47 u48 u49 u50 u51 u52 u53 u54 u55 v u57 u58 u59 u60 u61 u62 u63 u64 u65 u66 u67 u68 u8 :=
  ⟨fun k => h.f0 (set_ne (by decide) k), fun k => h.f1 (set_ne (by decide) k), fun k => h.f2 (set_ne (by decide) k), fun k => h.f3 (set_ne (by decide) k), fun k => h.f4 (set_ne (by decide) k), fun k => h.f5 (set_ne (by decide) k), fun k => h.f6 (set_ne (by decide) k), fun k => h.f7 (set_ne (by decide) k), fun k => h.f8 (set_ne (by decide) k), fun k => h.f9 (set_ne (by decide) k), fun k => h.f10 (set_ne (by decide) k), fun k => h.f11 (set_ne (by decide) k), fun k => h.f12 (set_ne (by decide) k), fun k => h.f13 (set_ne (by decide) k), fun _ => hv, fun k => h.f15 (set_ne (by decide) k), fun k => h.f16 (set_ne (by decide) k), fun k => h.f17 (set_ne (by decide) k), fun k => h.f18 (set_ne (by decide) k), fun k => h.f19 (set_ne (by decide) k), fun k => h.f20 (set_ne (by decide) k), fun k => h.f21 (set_ne (by decide) k), fun k => h.f22 (set_ne (by decide) k), fun k => h.f23 (set_ne (by decide) k), fun k => h.f24 (set_ne (by decide) k), fun k => h.f25 (set_ne (by decide) k), fun k => h.f26 (set_ne (by decide) k), fun k => h.f27 (set_ne (by decide) k)⟩
theorem R8.set15 (h : R8 B bd m d x y q id i8 i2 L w u42 u43 u44 u45 u46 u47 u48 u49 u50 u51 u52 u53 u54 u55 u56 u57 u58 u59 u60 u61 u62 u63 u64 u65 u66 u67 u68 u8) {v : Value} (hv : ∃ n, v = .slice (some ⟨n, 0, none⟩) 2 2 ∧ B ≤ n ∧ Bk w n (xyS.map Value.string)) : R8 B bd m d x y q id i8 i2 (L.setIfInBounds 15 true) w u42 u43 u44 u45 u46 u47 u48 u49 u50 u51 u52 u53 u54 u55 u56 v u58 u59 u60 u61 u62 u63 u64 u65 u66 u67 u68 u8 :=
  ⟨fun k => h.f0 (set_ne (by decide) k), fun k => h.f1 (set_ne (by decide) k), fun k => h.f2 (set_ne (by decide) k), fun k => h.f3 (set_ne (by decide) k), fun k => h.f4 (set_ne (by decide) k), fun k => h.f5 (set_ne (by decide) k), fun k => h.f6 (set_ne (by decide) k), fun k => h.f7 (set_ne (by decide) k), fun k => h.f8 (set_ne (by decide) k), fun k => h.f9 (set_ne (by decide) k), fun k => h.f10 (set_ne (by decide) k), fun k => h.f11 (set_ne (by decide) k), fun k => h.f12 (set_ne (by decide) k), fun k => h.f13 (set_ne (by decide) k), fun k => h.f14 (set_ne (by decide) k), fun _ => hv, fun k => h.f16 (set_ne (by decide) k), fun k => h.f17 (set_ne (by decide) k), fun k => h.f18 (set_ne (by decide) k), fun k => h.f19 (set_ne (by decide) k), fun k => h.f20 (set_ne (by decide) k), fun k => h.f21 (set_ne (by decide) k), fun k => h.f22 (set_ne (by decide) k), fun k => h.f23 (set_ne (by decide) k), fun k => h.f24 (set_ne (by decide) k), fun k => h.f25 (set_ne (by decide) k), fun k => h.f26 (set_ne (by decide) k), fun k => h.f27 (set_ne (by decide) k)⟩
theorem R8.set16 (h : R8 B bd m d x y q id i8 i2 L w u42 u43 u44 u45 u46 u47 u48 u49 u50 u51 u52 u53 u54 u55 u56 u57 u58 u59 u60 u61 u62 u63 u64 u65 u66 u67 u68 u8) {v : Value} (hv : v = .slice (some bd) m d) : R8 B bd m d x y q id i8 i2 (L.setIfInBounds 16 true) w u42 u43 u44 u45 u46 u47 u48 u49 u50 u51 u52 u53 u54 u55 u56 u57 v u59 u60 u61 u62 u63 u64 u65 u66 u67 u68 u8 :=
  ⟨fun k => h.f0 (set_ne (by decide) k), fun k => h.f1 (set_ne (by decide) k), fun k => h.f2 (set_ne (by decide) k), fun k => h.f3 (set_ne (by decide) k), fun k => h.f4 (set_ne (by decide) k), fun k => h.f5 (set_ne (by decide) k), fun k => h.f6 (set_ne (by decide) k), fun k => h.f7 (set_ne (by decide) k), fun k => h.f8 (set_ne (by decide) k), fun k => h.f9 (set_ne (by decide) k), fun k => h.f10 (set_ne (by decide) k), fun k => h.f11 (set_ne (by decide) k), fun k => h.f12 (set_ne (by decide) k), fun k => h.f13 (set_ne (by decide) k), fun k => h.f14 (set_ne (by decide) k), fun k => h.f15 (set_ne (by decide) k), fun _ => hv, fun k => h.f17 (set_ne (by decide) k), fun k => h.f18 (set_ne (by decide) k), fun k => h.f19 (set_ne (by decide) k), fun k => h.f20 (set_ne (by decide) k), fun k => h.f21 (set_ne (by decide) k), fun k => h.f22 (set_ne (by decide) k), fun k => h.f23 (set_ne (by decide) k), fun k => h.f24 (set_ne (by decide) k), fun k => h.f25 (set_ne (by decide) k), fun k => h.f26 (set_ne (by decide) k), fun k => h.f27 (set_ne (by decide) k)⟩
theorem R8.set17 (h : R8 B bd m d x y q id i8 i2 L w u42 u43 u44 u45 u46 u47 u48 u49 u50 u51 u52 u53 u54 u55 u56 u57 u58 u59 u60 u61 u62 u63 u64 u65 u66 u67 u68 u8) {v : Value} (hv : v = .pointer (some ⟨bd.block, bd.off + 1, none⟩)) : R8 B bd m d x y q id i8 i2 (L.setIfInBounds 17 true) w u42 u43 u44 u45 u46 u47 u48 u49 u50 u51 u52 u53 u54 u55 u56 u57 u58 v u60 u61 u62 u63 u64 u65 u66 u67 u68 u8 :=
  ⟨fun k => h.f0 (set_ne (by decide) k), fun k => h.f1 (set_ne (by decide) k), fun k => h.f2 (set_ne (by decide) k), fun k => h.f3 (set_ne (by decide) k), fun k => h.f4 (set_ne (by decide) k), fun k => h.f5 (set_ne (by decide) k), fun k => h.f6 (set_ne (by decide) k), fun k => h.f7 (set_ne (by decide) k), fun k => h.f8 (set_ne (by decide) k), fun k => h.f9 (set_ne (by decide) k), fun k => h.f10 (set_ne (by decide) k), fun k => h.f11 (set_ne (by decide) k), fun k => h.f12 (set_ne (by decide) k), fun k => h.f13 (set_ne (by decide) k), fun k => h.f14 (set_ne (by decide) k), fun k => h.f15 (set_ne (by decide) k), fun k => h.f16 (set_ne (by decide) k), fun _ => hv, fun k => h.f18 (set_ne (by decide) k), fun k => h.f19 (set_ne (by decide) k), fun k => h.f20 (set_ne (by decide) k), fun k => h.f21 (set_ne (by decide) k), fun k => h.f22 (set_ne (by decide) k), fun k => h.f23 (set_ne (by decide) k), fun k => h.f24 (set_ne (by decide) k), fun k => h.f25 (set_ne (by decide) k), fun k => h.f26 (set_ne (by decide) k), fun k => h.f27 (set_ne (by decide) k)⟩
theorem R8.set18 (h : R8 B bd m d x y q id i8 i2 L w u42 u43 u44 u45 u46 u47 u48 u49 u50 u51 u52 u53 u54 u55 u56 u57 u58 u59 u60 u61 u62 u63 u64 u65 u66 u67 u68 u8) {v : Value} (hv : v = .int .i64 y) : R8 B bd m d x y q id i8 i2 (L.setIfInBounds 18 true) w u42 u43 u44 u45 u46 u47 u48 u49 u50 u51 u52 u53 u54 u55 u56 u57 u58 u59 v u61 u62 u63 u64 u65 u66 u67 u68 u8 :=
  ⟨fun k => h.f0 (set_ne (by decide) k), fun k => h.f1 (set_ne (by decide) k), fun k => h.f2 (set_ne (by decide) k), fun k => h.f3 (set_ne (by decide) k), fun k => h.f4 (set_ne (by decide) k), fun k => h.f5 (set_ne (by decide) k), fun k => h.f6 (set_ne (by decide) k), fun k => h.f7 (set_ne (by decide) k), fun k => h.f8 (set_ne (by decide) k), fun k => h.f9 (set_ne (by decide) k), fun k => h.f10 (set_ne (by decide) k), fun k => h.f11 (set_ne (by decide) k), fun k => h.f12 (set_ne (by decide) k), fun k => h.f13 (set_ne (by decide) k), fun k => h.f14 (set_ne (by decide) k), fun k => h.f15 (set_ne (by decide) k), fun k => h.f16 (set_ne (by decide) k), fun k => h.f17 (set_ne (by decide) k), fun _ => hv, fun k => h.f19 (set_ne (by decide) k), fun k => h.f20 (set_ne (by decide) k), fun k => h.f21 (set_ne (by decide) k), fun k => h.f22 (set_ne (by decide) k), fun k => h.f23 (set_ne (by decide) k), fun k => h.f24 (set_ne (by decide) k), fun k => h.f25 (set_ne (by decide) k), fun k => h.f26 (set_ne (by decide) k), fun k => h.f27 (set_ne (by decide) k)⟩
theorem R8.set19 (h : R8 B bd m d x y q id i8 i2 L w u42 u43 u44 u45 u46 u47 u48 u49 u50 u51 u52 u53 u54 u55 u56 u57 u58 u59 u60 u61 u62 u63 u64 u65 u66 u67 u68 u8) {v : Value} (hv : v = .int .i64 (i2 : Nat)) : R8 B bd m d x y q id i8 i2 (L.setIfInBounds 19 true) w u42 u43 u44 u45 u46 u47 u48 u49 u50 u51 u52 u53 u54 u55 u56 u57 u58 u59 u60 v u62 u63 u64 u65 u66 u67 u68 u8 :=
  ⟨fun k => h.f0 (set_ne (by decide) k), fun k => h.f1 (set_ne (by decide) k), fun k => h.f2 (set_ne (by decide) k), fun k => h.f3 (set_ne (by decide) k), fun k => h.f4 (set_ne (by decide) k), fun k => h.f5 (set_ne (by decide) k), fun k => h.f6 (set_ne (by decide) k), fun k => h.f7 (set_ne (by decide) k), fun k => h.f8 (set_ne (by decide) k), fun k => h.f9 (set_ne (by decide) k), fun k => h.f10 (set_ne (by decide) k), fun k => h.f11 (set_ne (by decide) k), fun k => h.f12 (set_ne (by decide) k), fun k => h.f13 (set_ne (by decide) k), fun k => h.f14 (set_ne (by decide) k), fun k => h.f15 (set_ne (by decide) k), fun k => h.f16 (set_ne (by decide) k), fun k => h.f17 (set_ne (by decide) k), fun k => h.f18 (set_ne (by decide) k), fun _ => hv, fun k => h.f20 (set_ne (by decide) k), fun k => h.f21 (set_ne (by decide) k), fun k => h.f22 (set_ne (by decide) k), fun k => h.f23 (set_ne (by decide) k), fun k => h.f24 (set_ne (by decide) k), fun k => h.f25 (set_ne (by decide) k), fun k => h.f26 (set_ne (by decide) k), fun k => h.f27 (set_ne (by decide) k)⟩
theorem R8.set20 (h : R8 B bd m d x y q id i8 i2 L w u42 u43 u44 u45 u46 u47 u48 u49 u50 u51 u52 u53 u54 u55 u56 u57 u58 u59 u60 u61 u62 u63 u64 u65 u66 u67 u68 u8) {v : Value} (hv : ∃ n, v = .pointer (some ⟨n, i2, none⟩) ∧ B ≤ n ∧ Bk w n (xyS.map Value.string)) : R8 B bd m d x y q id i8 i2 (L.setIfInBounds 20 true) w u42 u43 u44 u45 u46 u47 u48 u49 u50 u51 u52 u53 u54 u55 u56 u57 u58 u59 u60 u61 v u63 u64 u65 u66 u67 u68 u8 :=
  ⟨fun k => h.f0 (set_ne (by decide) k), fun k => h.f1 (set_ne (by decide) k), fun k => h.f2 (set_ne (by decide) k), fun k => h.f3 (set_ne (by decide) k), fun k => h.f4 (set_ne (by decide) k), fun k => h.f5 (set_ne (by decide) k), fun k => h.f6 (set_ne (by decide) k), fun k => h.f7 (set_ne (by decide) k), fun k => h.f8 (set_ne (by decide) k), fun k => h.f9 (set_ne (by decide) k), fun k => h.f10 (set_ne (by decide) k), fun k => h.f11 (set_ne (by decide) k), fun k => h.f12 (set_ne (by decide) k), fun k => h.f13 (set_ne (by decide) k), fun k => h.f14 (set_ne (by decide) k), fun k => h.f15 (set_ne (by decide) k), fun k => h.f16 (set_ne (by decide) k), fun k => h.f17 (set_ne (by decide) k), fun k => h.f18 (set_ne (by decide) k), fun k => h.f19 (set_ne (by decide) k), fun _ => hv, fun k => h.f21 (set_ne (by decide) k), fun k => h.f22 (set_ne (by decide) k), fun k => h.f23 (set_ne (by decide) k), fun k => h.f24 (set_ne (by decide) k), fun k => h.f25 (set_ne (by decide) k), fun k => h.f26 (set_ne (by decide) k), fun k => h.f27 (set_ne (by decide) k)⟩
theorem R8.set21 (h : R8 B bd m d x y q id i8 i2 L w u42 u43 u44 u45 u46 u47 u48 u49 u50 u51 u52 u53 u54 u55 u56 u57 u58 u59 u60 u61 u62 u63 u64 u65 u66 u67 u68 u8) {v : Value} (hv : v = .string (xyS[i2]?.getD ⟨#[]⟩)) : R8 B bd m d x y q id i8 i2 (L.setIfInBounds 21 true) w u42 u43 u44 u45 u46 u47 u48 u49 u50 u51 u52 u53 u54 u55 u56 u57 u58 u59 u60 u61 u62 v u64 u65 u66 u67 u68 u8 :=
  ⟨fun k => h.f0 (set_ne (by decide) k), fun k => h.f1 (set_ne (by decide) k), fun k => h.f2 (set_ne (by decide) k), fun k => h.f3 (set_ne (by decide) k), fun k => h.f4 (set_ne (by decide) k), fun k => h.f5 (set_ne (by decide) k), fun k => h.f6 (set_ne (by decide) k), fun k => h.f7 (set_ne (by decide) k), fun k => h.f8 (set_ne (by decide) k), fun k => h.f9 (set_ne (by decide) k), fun k => h.f10 (set_ne (by decide) k), fun k => h.f11 (set_ne (by decide) k), fun k => h.f12 (set_ne (by decide) k), fun k => h.f13 (set_ne (by decide) k), fun k => h.f14 (set_ne (by decide) k), fun k => h.f15 (set_ne (by decide) k), fun k => h.f16 (set_ne (by decide) k), fun k => h.f17 (set_ne (by decide) k), fun k => h.f18 (set_ne (by decide) k), fun k => h.f19 (set_ne (by decide) k), fun k => h.f20 (set_ne (by decide) k), fun _ => hv, fun k => h.f22 (set_ne (by decide) k), fun k => h.f23 (set_ne (by decide) k), fun k => h.f24 (set_ne (by decide) k), fun k => h.f25 (set_ne (by decide) k), fun k => h.f26 (set_ne (by decide) k), fun k => h.f27 (set_ne (by decide) k)⟩
theorem R8.set22 (h : R8 B bd m d x y q id i8 i2 L w u42 u43 u44 u45 u46 u47 u48 u49 u50 u51 u52 u53 u54 u55 u56 u57 u58 u59 u60 u61 u62 u63 u64 u65 u66 u67 u68 u8) {v : Value} (hv : v = .agg #[.string ⟨#[107]⟩, .string (xyS[i2]?.getD ⟨#[]⟩)]) : R8 B bd m d x y q id i8 i2 (L.setIfInBounds 22 true) w u42 u43 u44 u45 u46 u47 u48 u49 u50 u51 u52 u53 u54 u55 u56 u57 u58 u59 u60 u61 u62 u63 v u65 u66 u67 u68 u8 :=
  ⟨fun k => h.f0 (set_ne (by decide) k), fun k => h.f1 (set_ne (by decide) k), fun k => h.f2 (set_ne (by decide) k), fun k => h.f3 (set_ne (by decide) k), fun k => h.f4 (set_ne (by decide) k), fun k => h.f5 (set_ne (by decide) k), fun k => h.f6 (set_ne (by decide) k), fun k => h.f7 (set_ne (by decide) k), fun k => h.f8 (set_ne (by decide) k), fun k => h.f9 (set_ne (by decide) k), fun k => h.f10 (set_ne (by decide) k), fun k => h.f11 (set_ne (by decide) k), fun k => h.f12 (set_ne (by decide) k), fun k => h.f13 (set_ne (by decide) k), fun k => h.f14 (set_ne (by decide) k), fun k => h.f15 (set_ne (by decide) k), fun k => h.f16 (set_ne (by decide) k), fun k => h.f17 (set_ne (by decide) k), fun k => h.f18 (set_ne (by decide) k), fun k => h.f19 (set_ne (by decide) k), fun k => h.f20 (set_ne (by decide) k), fun k => h.f21 (set_ne (by decide) k), fun _ => hv, fun k => h.f23 (set_ne (by decide) k), fun k => h.f24 (set_ne (by decide) k), fun k => h.f25 (set_ne (by decide) k), fun k => h.f26 (set_ne (by decide) k), fun k => h.f27 (set_ne (by decide) k)⟩
theorem R8.set23 (h : R8 B bd m d x y q id i8 i2 L w u42 u43 u44 u45 u46 u47 u48 u49 u50 u51 u52 u53 u54 u55 u56 u57 u58 u59 u60 u61 u62 u63 u64 u65 u66 u67 u68 u8) {v : Value} (hv : ∃ n, v = .slice (some ⟨n, 0, none⟩) 1 1 ∧ B ≤ n ∧ Bk w n [.string ⟨#[107]⟩, .string (xyS[i2]?.getD ⟨#[]⟩)]) : R8 B bd m d x y q id i8 i2 (L.setIfInBounds 23 true) w u42 u43 u44 u45 u46 u47 u48 u49 u50 u51 u52 u53 u54 u55 u56 u57 u58 u59 u60 u61 u62 u63 u64 v u66 u67 u68 u8 :=
  ⟨fun k => h.f0 (set_ne (by decide) k), fun k => h.f1 (set_ne (by decide) k), fun k => h.f2 (set_ne (by decide) k), fun k => h.f3 (set_ne (by decide) k), fun k => h.f4 (set_ne (by decide) k), fun k => h.f5 (set_ne (by decide) k), fun k => h.f6 (set_ne (by decide) k), fun k => h.f7 (set_ne (by decide) k), fun k => h.f8 (set_ne (by decide) k), fun k => h.f9 (set_ne (by decide) k), fun k => h.f10 (set_ne (by decide) k), fun k => h.f11 (set_ne (by decide) k), fun k => h.f12 (set_ne (by decide) k), fun k => h.f13 (set_ne (by decide) k), fun k => h.f14 (set_ne (by decide) k), fun k => h.f15 (set_ne (by decide) k), fun k => h.f16 (set_ne (by decide) k), fun k => h.f17 (set_ne (by decide) k), fun k => h.f18 (set_ne (by decide) k), fun k => h.f19 (set_ne (by decide) k), fun k => h.f20 (set_ne (by decide) k), fun k => h.f21 (set_ne (by decide) k), fun k => h.f22 (set_ne (by decide) k), fun _ => hv, fun k => h.f24 (set_ne (by decide) k), fun k => h.f25 (set_ne (by decide) k), fun k => h.f26 (set_ne (by decide) k), fun k => h.f27 (set_ne (by decide) k)⟩
theorem R8.set24 (h : R8 B bd m d x y q id i8 i2 L w u42 u43 u44 u45 u46 u47 u48 u49 u50 u51 u52 u53 u54 u55 u56 u57 u58 u59 u60 u61 u62 u63 u64 u65 u66 u67 u68 u8) {v : Value} (hv : ∃ n, v = .agg #[.string id, .int .i64 (withinV y 8), .slice (some ⟨n, 0, none⟩) 1 1, .slice none 0 0] ∧ B ≤ n ∧ Bk w n [.string ⟨#[107]⟩, .string (xyS[i2]?.getD ⟨#[]⟩)]) : R8 B bd m d x y q id i8 i2 (L.setIfInBounds 24 true) w u42 u43 u44 u45 u46 u47 u48 u49 u50 u51 u52 u53 u54 u55 u56 u57 u58 u59 u60 u61 u62 u63 u64 u65 v u67 u68 u8 :=
  ⟨fun k => h.f0 (set_ne (by decide) k), fun k => h.f1 (set_ne (by decide) k), fun k => h.f2 (set_ne (by decide) k), fun k => h.f3 (set_ne (by decide) k), fun k => h.f4 (set_ne (by decide) k), fun k => h.f5 (set_ne (by decide) k), fun k => h.f6 (set_ne (by decide) k), fun k => h.f7 (set_ne (by decide) k), fun k => h.f8 (set_ne (by decide) k), fun k => h.f9 (set_ne (by decide) k), fun k => h.f10 (set_ne (by decide) k), fun k => h.f11 (set_ne (by decide) k), fun k => h.f12 (set_ne (by decide) k), fun k => h.f13 (set_ne (by decide) k), fun k => h.f14 (set_ne (by decide) k), fun k => h.f15 (set_ne (by decide) k), fun k => h.f16 (set_ne (by decide) k), fun k => h.f17 (set_ne (by decide) k), fun k => h.f18 (set_ne (by decide) k), fun k => h.f19 (set_ne (by decide) k), fun k => h.f20 (set_ne (by decide) k), fun k => h.f21 (set_ne (by decide) k), fun k => h.f22 (set_ne (by decide) k), fun k => h.f23 (set_ne (by decide) k), fun _ => hv, fun k => h.f25 (set_ne (by decide) k), fun k => h.f26 (set_ne (by decide) k), fun k => h.f27 (set_ne (by decide) k)⟩
theorem R8.set25 (h : R8 B bd m d x y q id i8 i2 L w u42 u43 u44 u45 u46 u47 u48 u49 u50 u51 u52 u53 u54 u55 u56 u57 u58 u59 u60 u61 u62 u63 u64 u65 u66 u67 u68 u8) {v : Value} (hv : v = .agg #[.string ⟨#[107]⟩, .string ⟨#[120]⟩]) : R8 B bd m d x y q id i8 i2 (L.setIfInBounds 25 true) w u42 u43 u44 u45 u46 u47 u48 u49 u50 u51 u52 u53 u54 u55 u56 u57 u58 u59 u60 u61 u62 u63 u64 u65 u66 v u68 u8 :=
  ⟨fun k => h.f0 (set_ne (by decide) k), fun k => h.f1 (set_ne (by decide) k), fun k => h.f2 (set_ne (by decide) k), fun k => h.f3 (set_ne (by decide) k), fun k => h.f4 (set_ne (by decide) k), fun k => h.f5 (set_ne (by decide) k), fun k => h.f6 (set_ne (by decide) k), fun k => h.f7 (set_ne (by decide) k), fun k => h.f8 (set_ne (by decide) k), fun k => h.f9 (set_ne (by decide) k), fun k => h.f10 (set_ne (by decide) k), fun k => h.f11 (set_ne (by decide) k), fun k => h.f12 (set_ne (by decide) k), fun k => h.f13 (set_ne (by decide) k), fun k => h.f14 (set_ne (by decide) k), fun k => h.f15 (set_ne (by decide) k), fun k => h.f16 (set_ne (by decide) k), fun k => h.f17 (set_ne (by decide) k), fun k => h.f18 (set_ne (by decide) k), fun k => h.f19 (set_ne (by decide) k), fun k => h.f20 (set_ne (by decide) k), fun k => h.f21 (set_ne (by decide) k), fun k => h.f22 (set_ne (by decide) k), fun k => h.f23 (set_ne (by decide) k), fun k => h.f24 (set_ne (by decide) k), fun _ => hv, fun k => h.f26 (set_ne (by decide) k), fun k => h.f27 (set_ne (by decide) k)⟩
theorem R8.set26 (h : R8 B bd m d x y q id i8 i2 L w u42 u43 u44 u45 u46 u47 u48 u49 u50 u51 u52 u53 u54 u55 u56 u57 u58 u59 u60 u61 u62 u63 u64 u65 u66 u67 u68 u8) {v : Value} (hv : ∃ n, v = .agg #[.int .i64 (kindsL[i8]?.getD 0), .int .i64 q.role, .int .i64 q.why, .int .i64 q.time, .slice none 0 0, .string id, .int .i64 (withinV y 8), .slice (some ⟨n, 0, none⟩) 1 1, .slice none 0 0, .string id, .string ⟨#[107]⟩, .string ⟨#[120]⟩] ∧ B ≤ n ∧ Bk w n [.string ⟨#[107]⟩, .string (xyS[i2]?.getD ⟨#[]⟩)]) : R8 B bd m d x y q id i8 i2 (L.setIfInBounds 26 true) w u42 u43 u44 u45 u46 u47 u48 u49 u50 u51 u52 u53 u54 u55 u56 u57 u58 u59 u60 u61 u62 u63 u64 u65 u66 u67 v u8 :=
  ⟨fun k => h.f0 (set_ne (by decide) k), fun k => h.f1 (set_ne (by decide) k), fun k => h.f2 (set_ne (by decide) k), fun k => h.f3 (set_ne (by decide) k), fun k => h.f4 (set_ne (by decide) k), fun k => h.f5 (set_ne (by decide) k), fun k => h.f6 (set_ne (by decide) k), fun k => h.f7 (set_ne (by decide) k), fun k => h.f8 (set_ne (by decide) k), fun k => h.f9 (set_ne (by decide) k), fun k => h.f10 (set_ne (by decide) k), fun k => h.f11 (set_ne (by decide) k), fun k => h.f12 (set_ne (by decide) k), fun k => h.f13 (set_ne (by decide) k), fun k => h.f14 (set_ne (by decide) k), fun k => h.f15 (set_ne (by decide) k), fun k => h.f16 (set_ne (by decide) k), fun k => h.f17 (set_ne (by decide) k), fun k => h.f18 (set_ne (by decide) k), fun k => h.f19 (set_ne (by decide) k), fun k => h.f20 (set_ne (by decide) k), fun k => h.f21 (set_ne (by decide) k), fun k => h.f22 (set_ne (by decide) k), fun k => h.f23 (set_ne (by decide) k), fun k => h.f24 (set_ne (by decide) k), fun k => h.f25 (set_ne (by decide) k), fun _ => hv, fun k => h.f27 (set_ne (by decide) k)⟩
theorem R8.set27 (h : R8 B bd m d x y q id i8 i2 L w u42 u43 u44 u45 u46 u47 u48 u49 u50 u51 u52 u53 u54 u55 u56 u57 u58 u59 u60 u61 u62 u63 u64 u65 u66 u67 u68 u8) {v : Value} (hv : ∃ n, v = .pointer (some ⟨n, 0, none⟩) ∧ B ≤ n ∧ Bk w n [.int .i64 0, .int .i64 0, .int .i64 0, .int .i64 0, .slice none 0 0, .string ByteArray.empty, .int .i64 0, .slice none 0 0, .slice none 0 0, .string ByteArray.empty, .string ByteArray.empty, .string ByteArray.empty]) : R8 B bd m d x y q id i8 i2 (L.setIfInBounds 27 true) w u42 u43 u44 u45 u46 u47 u48 u49 u50 u51 u52 u53 u54 u55 u56 u57 u58 u59 u60 u61 u62 u63 u64 u65 u66 u67 u68 v :=
  ⟨fun k => h.f0 (set_ne (by decide) k), fun k => h.f1 (set_ne (by decide) k), fun k => h.f2 (set_ne (by decide) k), fun k => h.f3 (set_ne (by decide) k), fun k => h.f4 (set_ne (by decide) k), fun k => h.f5 (set_ne (by decide) k), fun k => h.f6 (set_ne (by decide) k), fun k => h.f7 (set_ne (by decide) k), fun k => h.f8 (set_ne (by decide) k), fun k => h.f9 (set_ne (by decide) k), fun k => h.f10 (set_ne (by decide) k), fun k => h.f11 (set_ne (by decide) k), fun k => h.f12 (set_ne (by decide) k), fun k => h.f13 (set_ne (by decide) k), fun k => h.f14 (set_ne (by decide) k), fun k => h.f15 (set_ne (by decide) k), fun k => h.f16 (set_ne (by decide) k), fun k => h.f17 (set_ne (by decide) k), fun k => h.f18 (set_ne (by decide) k), fun k => h.f19 (set_ne (by decide) k), fun k => h.f20 (set_ne (by decide) k), fun k => h.f21 (set_ne (by decide) k), fun k => h.f22 (set_ne (by decide) k), fun k => h.f23 (set_ne (by decide) k), fun k => h.f24 (set_ne (by decide) k), fun k => h.f25 (set_ne (by decide) k), fun k => h.f26 (set_ne (by decide) k), fun _ => hv⟩
def putA (A : Act) (u42 u43 u44 u45 u46 u47 u48 u49 u50 u51 u52 u53 u54 u55 u56 u57 u58 u59 u60 u61 u62 u63 u64 u65 u66 u67 u68 u8 : Value) : Act := ((((((((((((((((((((((((((((A.put (some 42) u42).put (some 43) u43).put (some 44) u44).put (some 45) u45).put (some 46) u46).put (some 47) u47).put (some 48) u48).put (some 49) u49).put (some 50) u50).put (some 51) u51).put (some 52) u52).put (some 53) u53).put (some 54) u54).put (some 55) u55).put (some 56) u56).put (some 57) u57).put (some 58) u58).put (some 59) u59).put (some 60) u60).put (some 61) u61).put (some 62) u62).put (some 63) u63).put (some 64) u64).put (some 65) u65).put (some 66) u66).put (some 67) u67).put (some 68) u68).put (some 8) u8)
/-- What holds whichever operations have come up: not the last one, the store; or all. -/
def J8 (A : Act) (W : World) (B : Nat) (bd : Addr) (m d : Nat) (x y : Int) (q : Who) (id : ByteArray) (i8 i2 : Nat) (L : Array Bool) (a : Act) (w : World) : Prop :=
  ∃ u42 u43 u44 u45 u46 u47 u48 u49 u50 u51 u52 u53 u54 u55 u56 u57 u58 u59 u60 u61 u62 u63 u64 u65 u66 u67 u68 u8, a = putA A u42 u43 u44 u45 u46 u47 u48 u49 u50 u51 u52 u53 u54 u55 u56 u57 u58 u59 u60 u61 u62 u63 u64 u65 u66 u67 u68 u8 ∧ Below W.heap.size W w ∧ ((L[28]? = some false ∧ R8 B bd m d x y q id i8 i2 L w u42 u43 u44 u45 u46 u47 u48 u49 u50 u51 u52 u53 u54 u55 u56 u57 u58 u59 u60 u61 u62 u63 u64 u65 u66 u67 u68 u8) ∨ (∀ i, i < 29 → L[i]? = some true) ∧ ∃ n nf, u8 = .pointer (some ⟨n, 0, none⟩) ∧ B ≤ n ∧ B ≤ nf ∧
    Bk w n [.int .i64 (kindsL[i8]?.getD 0), .int .i64 q.role, .int .i64 q.why, .int .i64 q.time, .slice none 0 0, .string id, .int .i64 (withinV y 8), .slice (some ⟨nf, 0, none⟩) 1 1, .slice none 0 0, .string id, .string ⟨#[107]⟩, .string ⟨#[120]⟩] ∧ Bk w nf [.string ⟨#[107]⟩, .string (xyS[i2]?.getD ⟨#[]⟩)])
theorem Bk.ne {w : World} {n m : Nat} {cs ds : List Value} (h : Bk w n cs) (k : Bk w m ds) (hl : cs.length ≠ ds.length) : n ≠ m := by
  rintro rfl
  obtain ⟨t, h⟩ := h
  obtain ⟨s, k⟩ := k
  rw [h] at k
  injection k with k
  injection k with k
  refine hl ?_
  have := congrArg Array.size k
  simpa using this
theorem Bk.doz {w : World} {n : Nat} {c0 c1 c2 c3 c4 c5 c6 c7 c8 c9 c10 c11 : Value} (h : Bk w n [c0, c1, c2, c3, c4, c5, c6, c7, c8, c9, c10, c11]) : w.cell? ⟨n, 0, none⟩ = some c0 ∧ w.cell? ⟨n, 1, none⟩ = some c1 ∧ w.cell? ⟨n, 2, none⟩ = some c2 ∧ w.cell? ⟨n, 3, none⟩ = some c3 ∧ w.cell? ⟨n, 4, none⟩ = some c4 ∧ w.cell? ⟨n, 5, none⟩ = some c5 ∧ w.cell? ⟨n, 6, none⟩ = some c6 ∧ w.cell? ⟨n, 7, none⟩ = some c7 ∧ w.cell? ⟨n, 8, none⟩ = some c8 ∧ w.cell? ⟨n, 9, none⟩ = some c9 ∧ w.cell? ⟨n, 10, none⟩ = some c10 ∧ w.cell? ⟨n, 11, none⟩ = some c11 ∧ (∀ o, w.frozen? ⟨n, o, none⟩ = false) :=
  ⟨h.cell 0, h.cell 1, h.cell 2, h.cell 3, h.cell 4, h.cell 5, h.cell 6, h.cell 7, h.cell 8, h.cell 9, h.cell 10, h.cell 11, h.frozen⟩
theorem Bk.set12 {w : World} {n : Nat} {c0 c1 c2 c3 c4 c5 c6 c7 c8 c9 c10 c11 v0 v1 v2 v3 v4 v5 v6 v7 v8 v9 v10 v11 : Value} (h : Bk w n [c0, c1, c2, c3, c4, c5, c6, c7, c8, c9, c10, c11]) : Bk ((((((((((((w.setCell ⟨n, 0, none⟩ v0).setCell ⟨n, 1, none⟩ v1).setCell ⟨n, 2, none⟩ v2).setCell ⟨n, 3, none⟩ v3).setCell ⟨n, 4, none⟩ v4).setCell ⟨n, 5, none⟩ v5).setCell ⟨n, 6, none⟩ v6).setCell ⟨n, 7, none⟩ v7).setCell ⟨n, 8, none⟩ v8).setCell ⟨n, 9, none⟩ v9).setCell ⟨n, 10, none⟩ v10).setCell ⟨n, 11, none⟩ v11) n [v0, v1, v2, v3, v4, v5, v6, v7, v8, v9, v10, v11] :=
  ((((((((((((h.set 0 v0).set 1 v1).set 2 v2).set 3 v3).set 4 v4).set 5 v5).set 6 v6).set 7 v7).set 8 v8).set 9 v9).set 10 v10).set 11 v11)
theorem Bk.other12 {w : World} {n m : Nat} {ds : List Value} {v0 v1 v2 v3 v4 v5 v6 v7 v8 v9 v10 v11 : Value} (h : Bk w m ds) (hn : m ≠ n) : Bk ((((((((((((w.setCell ⟨n, 0, none⟩ v0).setCell ⟨n, 1, none⟩ v1).setCell ⟨n, 2, none⟩ v2).setCell ⟨n, 3, none⟩ v3).setCell ⟨n, 4, none⟩ v4).setCell ⟨n, 5, none⟩ v5).setCell ⟨n, 6, none⟩ v6).setCell ⟨n, 7, none⟩ v7).setCell ⟨n, 8, none⟩ v8).setCell ⟨n, 9, none⟩ v9).setCell ⟨n, 10, none⟩ v10).setCell ⟨n, 11, none⟩ v11) m ds :=
  ((((((((((((h.other hn v0).other hn v1).other hn v2).other hn v3).other hn v4).other hn v5).other hn v6).other hn v7).other hn v8).other hn v9).other hn v10).other hn v11)
theorem below12 {w0 w : World} {n : Nat} {v0 v1 v2 v3 v4 v5 v6 v7 v8 v9 v10 v11 : Value} (h : Below w0.heap.size w0 w) (hp : w0.heap.size ≤ n) : Below w0.heap.size w0 ((((((((((((w.setCell ⟨n, 0, none⟩ v0).setCell ⟨n, 1, none⟩ v1).setCell ⟨n, 2, none⟩ v2).setCell ⟨n, 3, none⟩ v3).setCell ⟨n, 4, none⟩ v4).setCell ⟨n, 5, none⟩ v5).setCell ⟨n, 6, none⟩ v6).setCell ⟨n, 7, none⟩ v7).setCell ⟨n, 8, none⟩ v8).setCell ⟨n, 9, none⟩ v9).setCell ⟨n, 10, none⟩ v10).setCell ⟨n, 11, none⟩ v11) :=
  (below_set (below_set (below_set (below_set (below_set (below_set (below_set (below_set (below_set (below_set (below_set (below_set h hp v0) hp v1) hp v2) hp v3) hp v4) hp v5) hp v6) hp v7) hp v8) hp v9) hp v10) hp v11)
end Go.Proofs.WK
namespace Go.Proofs.WK
open Go.RowKit Rp
theorem withinV_wrap (x n : Int) : withinV (IntKind.i64.wrap x) n = withinV x n := by
  have e : IntKind.i64.wrap x % 18446744073709551616 = x % 18446744073709551616 := by
    simp [IntKind.wrap, IntKind.bits, IntKind.signed]
    try omega
  unfold withinV
  rw [e]
theorem infoOp : (Tryz.prog.info? 40).map (fun i => (i.zero, i.size, i.bytes)) = some (some (.agg #[.int .i64 0, .int .i64 0, .int .i64 0, .int .i64 0, .slice none 0 0, .string ByteArray.empty, .int .i64 0, .slice none 0 0, .slice none 0 0, .string ByteArray.empty, .string ByteArray.empty, .string ByteArray.empty]), 12, 176) := by kernel_rfl
theorem ints_at {w : World} {ok : Nat → Prop} {A : Option Addr} {l : List (List Int)} (h : (Rp.slice int).Row w ok A l) {k : Nat} (hk : k < l.length) : ∃ ad B d, A = some ad ∧ ad.block < w.heap.size ∧ w.cell? (ad.add k) = some (.slice B l[k].length d) ∧ l[k].length ≤ d ∧ int.Row w ok B l[k] := by
  obtain ⟨ad, u, e, h2, _, hK, hc⟩ := h.at1 rfl hk
  obtain ⟨v, hv, B, d, rfl, hd, hr⟩ := hK
  obtain rfl : u = _ := by simpa using hv
  exact ⟨ad, B, d, e, h2, hc, hd, hr⟩
theorem three_at {w : World} {ok : Nat → Prop} {B : Option Addr} {x y z : Int} {r : List Int} (h : int.Row w ok B (x :: y :: z :: r)) : ∃ bd, B = some bd ∧ bd.block < w.heap.size ∧ w.cell? bd = some (.int .i64 x) ∧ w.cell? ⟨bd.block, bd.off + 1, none⟩ = some (.int .i64 y) ∧ w.cell? ⟨bd.block, bd.off + 2, none⟩ = some (.int .i64 z) := by
  obtain ⟨bd, e, hb, y0⟩ := int_at (k := 0) h (by simp)
  obtain ⟨b1, e1, _, y1⟩ := int_at (k := 1) h (by simp)
  obtain ⟨b2, e2, _, y2⟩ := int_at (k := 2) h (by simp)
  subst e
  injection e1 with e1
  injection e2 with e2
  subst e1 e2
  exact ⟨_, rfl, hb, by simpa [Addr.add] using y0, by simpa [Addr.add] using y1, by simpa [Addr.add] using y2⟩
abbrev K3 (w : World) (bd : Addr) (x y z : Int) : Prop := w.cell? bd = some (.int .i64 x) ∧ w.cell? ⟨bd.block, bd.off + 1, none⟩ = some (.int .i64 y) ∧ w.cell? ⟨bd.block, bd.off + 2, none⟩ = some (.int .i64 z)
theorem K3.step {w w' : World} {bd : Addr} {x y z : Int} (h : K3 w bd x y z) (hb : Below w.heap.size w w') : K3 w' bd x y z := ⟨cell_below hb h.1, cell_below hb h.2.1, cell_below hb h.2.2⟩
theorem K3.al {w : World} {bd : Addr} {x y z : Int} (h : K3 w bd x y z) (o : Obj) : K3 (w.alloc o).drew bd x y z := K3.step (w' := w.alloc o) h ((Below.refl _ _).alloc (Nat.le_refl _) _)
theorem kinds_cell {w : World} {n i : Nat} (h : Bk w n (kindsL.map (Value.int .i64))) (hi : i < 8) : w.cell? ⟨n, i, none⟩ = some (.int .i64 (kindsL[i]?.getD 0)) := by
  rw [h.cell i, List.getElem?_map]
  have : i < kindsL.length := hi
  rw [List.getElem?_eq_getElem this]
  rfl
theorem xy_cell {w : World} {n i : Nat} (h : Bk w n (xyS.map Value.string)) (hi : i < 2) : w.cell? ⟨n, i, none⟩ = some (.string (xyS[i]?.getD ⟨#[]⟩)) := by
  rw [h.cell i, List.getElem?_map]
  have : i < xyS.length := hi
  rw [List.getElem?_eq_getElem this]
  rfl
theorem abc_get {i : Nat} (hi : i < 3) : [Value.string ⟨#[97]⟩, .string ⟨#[98]⟩, .string ⟨#[99]⟩][i]? = some (.string (abcS[i]?.getD ⟨#[]⟩)) := by
  match i, hi with
  | 0, _ => rfl
  | 1, _ => rfl
  | 2, _ => rfl
theorem sl_fld1 {w : World} {n : Nat} {x : Fld} (h : Bk w n (fldC x)) {ok : Nat → Prop} (ho : ok n) : fldR.Sl w ok (.slice (some ⟨n, 0, none⟩) 1 1) [x] := by
  refine ⟨_, 1, rfl, Nat.le_refl _, by simp, fun j p hp => ?_⟩
  match j, hp with
  | 0, hp =>
    obtain rfl : x = p := by simpa using hp
    refine ⟨_, rfl, ho, h.lt, fldC x, fldK.2 rfl, fun i u hu => ?_⟩
    rw [add_plain, h.cell]
    simpa using hu
abbrev zeroOp : Value := .agg #[.int .i64 0, .int .i64 0, .int .i64 0, .int .i64 0, .slice none 0 0, .string ByteArray.empty, .int .i64 0, .slice none 0 0, .slice none 0 0, .string ByteArray.empty, .string ByteArray.empty, .string ByteArray.empty]
abbrev K0 (w : World) (n : Nat) (q : Who) : Prop := w.cell? ⟨n, 0, none⟩ = some (.int .i64 q.role) ∧ w.cell? ⟨n, 1, none⟩ = some (.int .i64 q.why) ∧ w.cell? ⟨n, 2, none⟩ = some (.int .i64 q.time)
theorem K0.step {w w' : World} {n : Nat} {q : Who} (h : K0 w n q) (hb : Below w.heap.size w w') : K0 w' n q := ⟨cell_below hb h.1, cell_below hb h.2.1, cell_below hb h.2.2⟩
set_option maxHeartbeats 16000000 in
set_option maxRecDepth 100000 in
theorem topOps (A : Option Addr) (c : Nat) (l : List (List Int)) (ok : Nat → Prop) (w : World) (hr : (Rp.slice int).Row w ok A l) (hc : l.length ≤ c) :
    Calls Tryz.prog 11 #[.slice A l.length c] w fun e w' => ∃ v, e = .returned v ∧ opRp.Sl w' (fun k => w.heap.size ≤ k) v (opsV l) ∧ Below w.heap.size w w' := by
  have HR := Aside.mk (hr.take 25)
  have hl := hr.1
  have m1 : min (l.length : Int) 25 = ((l.take 25).length : Int) := by rw [List.length_take]; omega
  have m2 : (0 : Int) ≤ ((l.take 25).length : Int) := by omega
  have m3 : ((l.take 25).length : Int) ≤ (c : Int) := by rw [List.length_take]; omega
  have HN : Aside ((l.take 25).length ≤ 25) := ⟨by rw [List.length_take]; omega⟩
  obtain ⟨L, hL⟩ : ∃ L, l.take 25 = L := ⟨_, rfl⟩
  have e0 : opsV l = opsK L := by rw [← hL]; rfl
  rw [e0]
  rw [hL] at m1 m2 m3 HR HN
  clear hr e0 hL
  go_enter Tryz.func11, Tryz.ntmps11
  go_wp2_with fail
  go_loopw [3, 15] (fun o i wr => ∃ k : Nat, k ≤ L.length ∧ i = .int .i64 k ∧ Aside (opRp.Own 40 wr w.heap.size (fun j => w.heap.size ≤ j) o (opsK (L.take k))) ∧ Aside (Below w.heap.size w wr)) (fun _ i _ => L.length - (intOf i).toNat)
  case atStart => exact ⟨0, Nat.zero_le _, rfl, ⟨Own.nil _ _ _ _ _⟩, ⟨Below.refl _ _⟩⟩
  case round =>
    obtain ⟨k, hk, rfl, HO, HB⟩ := hrel
    have hN := HN.out
    obtain ⟨Ao, co, rfl⟩ := Sl.form HO.out.sl
    by_cases hlt : k < L.length
    · have p0 : (0 : Int) ≤ (k : Int) := by omega
      have p1 : (k : Int) < (L.length : Int) := by omega
      obtain ⟨ad, B, d, rfl, _, x0, x1, x2⟩ := ints_at (HR.out.below HB.out) hlt
      have hst := opsK_step hlt
      match hcs : L[k] with
      | [] =>
        rw [hcs] at hst x0
        have HE := Aside.mk (hst.trans (by show _ ++ [] = _; exact List.append_nil _))
        go_wp2_with fail
        refine ⟨⟨k + 1, by omega, by go_num, ⟨by rw [HE.out]; exact HO.out⟩, HB⟩, by simp [intOf]; omega⟩
      | [_] =>
        rw [hcs] at hst x0
        have HE := Aside.mk (hst.trans (by show _ ++ [] = _; exact List.append_nil _))
        go_wp2_with fail
        refine ⟨⟨k + 1, by omega, by go_num, ⟨by rw [HE.out]; exact HO.out⟩, HB⟩, by simp [intOf]; omega⟩
      | [_, _] =>
        rw [hcs] at hst x0
        have HE := Aside.mk (hst.trans (by show _ ++ [] = _; exact List.append_nil _))
        go_wp2_with fail
        refine ⟨⟨k + 1, by omega, by go_num, ⟨by rw [HE.out]; exact HO.out⟩, HB⟩, by simp [intOf]; omega⟩
      | x :: y :: z :: r =>
        rw [hcs] at x0 x1 x2 hst
        obtain ⟨bd, rfl, hbl, y0, y1, y2⟩ := three_at x2
        have r0 : (3 : Int) ≤ ((x :: y :: z :: r).length : Int) := by simp; omega
        generalize (x :: y :: z :: r).length = m at *
        have r1 : decide ((m : Int) < 3) = false := by simp; omega
        have g0 : (0 : Int) < (m : Int) := by omega
        have g0n : 0 < m := by omega
        have g1 : (1 : Int) < (m : Int) := by omega
        have g2 : (2 : Int) < (m : Int) := by omega
        have hal1 : Below wr.heap.size wr (wr.alloc (.cells #[.int .i64 (withinV x 3), .int .i64 (withinV y 2), .int .i64 (withinV z 30)] 31)).drew := below_drewN ((Below.refl _ _).alloc (Nat.le_refl _) _) 1
        go_upto_region 6 with fail
        go_cut [6] (fun p wx => ∃ n, p = .pointer (some ⟨n, 0, none⟩) ∧ Aside (K0 wx n ⟨withinV x 3, withinV y 2, withinV z 30⟩ ∧ K3 wx bd x y z ∧ Below wr.heap.size wr wx))
        case first =>
          go_region_held3 (fun w' => w'.cell? bd = some (.int .i64 x) ∧ w'.cell? ⟨bd.block, bd.off + 1, none⟩ = some (.int .i64 y) ∧ w'.cell? ⟨bd.block, bd.off + 2, none⟩ = some (.int .i64 z))
            (first | exact ⟨y0, y1, y2⟩ | assumption | exact K3.al ⟨y0, y1, y2⟩ _)
            (first
             | (go_at_call 15; refine (withinC _ _ (by decide) (by decide) _).mono ?_; rintro e w' ⟨rfl, rfl⟩))
          all_goals
            go_wp2_with fail
            go_meet
            exact ⟨_, rfl, ⟨⟨(Bk.made wr [_, _, _] _).cell 0, (Bk.made wr [_, _, _] _).cell 1, (Bk.made wr [_, _, _] _).cell 2⟩, K3.al ⟨y0, y1, y2⟩ _, hal1⟩⟩
        case rest =>
          obtain ⟨n6, rfl, hcut⟩ := hcut
          obtain ⟨i3, hi3⟩ : ∃ i : Nat, withinV z 3 = (i : Int) := ⟨_, (Int.toNat_of_nonneg (withinV_lt (by decide)).1).symm⟩
          have l3 := (withinV_lt (x := z) (n := 3) (by decide)).2
          rw [hi3] at l3
          have b3 : (0 : Int) ≤ (i3 : Int) := by omega
          have z3 : [Value.string ⟨#[97]⟩, .string ⟨#[98]⟩, .string ⟨#[99]⟩][i3]? = some (.string (abcS[i3]?.getD ⟨#[]⟩)) := abc_get (by omega)
          have HI3 := Aside.mk hi3
          obtain ⟨c0, c1, c2⟩ := K3.step (w' := wc.alloc (.cells #[.string ⟨#[97]⟩, .string ⟨#[98]⟩, .string ⟨#[99]⟩] 9)) hcut.out.2.1 ((Below.refl _ _).alloc (Nat.le_refl _) _)
          clear hi3
          go_upto_region 8 with (go_at_call 15; refine (withinC _ _ (by decide) (by decide) _).mono ?_; rintro e w' ⟨rfl, rfl⟩; rw [HI3.out])
          have hk0 := K0.step (w' := wc.alloc (.cells #[.string ⟨#[97]⟩, .string ⟨#[98]⟩, .string ⟨#[99]⟩] 9)) hcut.out.1 ((Below.refl _ _).alloc (Nat.le_refl _) _)
          have hBw8 := below_step hcut.out.2.2 (Below.alloc (Below.refl _ wc) (Nat.le_refl _) (.cells #[.string ⟨#[97]⟩, .string ⟨#[98]⟩, .string ⟨#[99]⟩] 9))
          have hk3 : K3 (wc.alloc (.cells #[.string ⟨#[97]⟩, .string ⟨#[98]⟩, .string ⟨#[99]⟩] 9)) bd x y z := ⟨c0, c1, c2⟩
          clear c0 c1 c2
          generalize hW8 : wc.alloc (.cells #[.string ⟨#[97]⟩, .string ⟨#[98]⟩, .string ⟨#[99]⟩] 9) = W8 at *
          obtain ⟨i8, hx8⟩ : ∃ i : Nat, withinV (x.tdiv 3) 8 = (i : Int) := ⟨_, (Int.toNat_of_nonneg (withinV_lt (by decide)).1).symm⟩
          obtain ⟨i2, hy2⟩ : ∃ i : Nat, withinV y 2 = (i : Int) := ⟨_, (Int.toNat_of_nonneg (withinV_lt (by decide)).1).symm⟩
          have hi8 : i8 < 8 := by have h := (withinV_lt (x := x.tdiv 3) (n := 8) (by decide)).2; omega
          have hi2 : i2 < 2 := by have h := (withinV_lt (x := y) (n := 2) (by decide)).2; omega
          have b8 : (0 : Int) ≤ (i8 : Int) := by omega
          have b8' : (i8 : Int) < 8 := by omega
          have b2 : (0 : Int) ≤ (i2 : Int) := by omega
          have b2' : (i2 : Int) < 2 := by omega
          have HX8 := Aside.mk hx8
          have HY2 := Aside.mk hy2
          clear hx8 hy2 hcut z3
          go_cut [8] (fun p wx => ∃ n nf, p = .pointer (some ⟨n, 0, none⟩) ∧ Aside (
            Bk wx n [.int .i64 (kindsL[i8]?.getD 0), .int .i64 (withinV x 3), .int .i64 (withinV y 2), .int .i64 (withinV z 30), .slice none 0 0, .string (abcS[i3]?.getD ⟨#[]⟩), .int .i64 (withinV y 8), .slice (some ⟨nf, 0, none⟩) 1 1, .slice none 0 0, .string (abcS[i3]?.getD ⟨#[]⟩), .string ⟨#[107]⟩, .string ⟨#[120]⟩] ∧
            Bk wx nf [.string ⟨#[107]⟩, .string (xyS[i2]?.getD ⟨#[]⟩)] ∧ wr.heap.size ≤ nf ∧ Below wr.heap.size wr wx) ∧ Aside (wr.heap.size ≤ n))
          case first =>
            generalize hA : Act.mk _ _ = A
            refine region_facts (J8 A W8 W8.heap.size bd m d x y ⟨withinV x 3, withinV y 2, withinV z 30⟩ (abcS[i3]?.getD ⟨#[]⟩) i8 i2) (by kernel_rfl) (by kernel_rfl) ?_ ?_ ?_
            · subst hA
              simp only [J8, putA, Act.put, List.setIfInBounds_toArray, List.set_cons_zero, List.set_cons_succ]
              refine ⟨_, _, _, _, _, _, _, _, _, _, _, _, _, _, _, _, _, _, _, _, _, _, _, _, _, _, _, _, rfl, below_drewN (Below.refl _ _) 1, .inl ⟨rfl, R8.init fun j hj => ?_⟩⟩
              rw [Array.getElem?_replicate] at hj
              split at hj <;> simp at hj
            · intro i o L' a w' ho hsz hLi haft hJ K' hK
              obtain ⟨u42, u43, u44, u45, u46, u47, u48, u49, u50, u51, u52, u53, u54, u55, u56, u57, u58, u59, u60, u61, u62, u63, u64, u65, u66, u67, u68, u8, rfl, hB, hJ⟩ := hJ
              have hi := (Array.getElem?_eq_some_iff.1 ho).1
              rcases hJ with ⟨h28, hR⟩ | ⟨hall, _⟩
              case inr =>
                have h := hall i hi
                rw [hLi] at h
                cases h
              subst hA
              rcases i with _ | i
              · simp only [List.getElem?_toArray, List.getElem?_cons_succ, List.getElem?_cons_zero, Option.some.injEq] at ho
                subst ho
                rw [if_pos (by rfl)]
                clear hsz hi hLi
                have HK := Aside.mk hK
                clear hK haft
                simp only [putA, Act.put, List.setIfInBounds_toArray, List.set_cons_zero, List.set_cons_succ]
                go_simp
                refine HK.out _ _ ?_
                simp only [J8, putA, Act.put, List.setIfInBounds_toArray, List.set_cons_zero, List.set_cons_succ]
                refine ⟨_, u43, u44, u45, u46, u47, u48, u49, u50, u51, u52, u53, u54, u55, u56, u57, u58, u59, u60, u61, u62, u63, u64, u65, u66, u67, u68, u8, rfl, hB.alloc hB.size _, .inl ⟨by rw [Array.getElem?_setIfInBounds_ne (by decide)]; exact h28, R8.set0 (hR.below ((Below.refl _ _).alloc (Nat.le_refl _) _)) ?_⟩⟩
                exact ⟨_, rfl, hB.size, Bk.made _ _ _⟩
              rcases i with _ | i
              · simp only [List.getElem?_toArray, List.getElem?_cons_succ, List.getElem?_cons_zero, Option.some.injEq] at ho
                subst ho
                rw [if_pos (by rfl)]
                clear hsz hi hLi
                have HK := Aside.mk hK
                clear hK haft
                simp only [putA, Act.put, List.setIfInBounds_toArray, List.set_cons_zero, List.set_cons_succ]
                go_simp
                refine HK.out _ _ ?_
                simp only [J8, putA, Act.put, List.setIfInBounds_toArray, List.set_cons_zero, List.set_cons_succ]
                refine ⟨u42, _, u44, u45, u46, u47, u48, u49, u50, u51, u52, u53, u54, u55, u56, u57, u58, u59, u60, u61, u62, u63, u64, u65, u66, u67, u68, u8, rfl, hB, .inl ⟨by rw [Array.getElem?_setIfInBounds_ne (by decide)]; exact h28, R8.set1 (hR) ?_⟩⟩
                rfl
              rcases i with _ | i
              · simp only [List.getElem?_toArray, List.getElem?_cons_succ, List.getElem?_cons_zero, Option.some.injEq] at ho
                subst ho
                rw [if_pos (by rfl)]
                clear hsz hi hLi
                obtain rfl := hR.f1 (haft { on := 1, ground := .data } (by simp) rfl)
                have HK := Aside.mk hK
                clear hK haft
                simp only [putA, Act.put, List.setIfInBounds_toArray, List.set_cons_zero, List.set_cons_succ]
                go_simp
                refine HK.out _ _ ?_
                simp only [J8, putA, Act.put, List.setIfInBounds_toArray, List.set_cons_zero, List.set_cons_succ]
                refine ⟨u42, _, _, u45, u46, u47, u48, u49, u50, u51, u52, u53, u54, u55, u56, u57, u58, u59, u60, u61, u62, u63, u64, u65, u66, u67, u68, u8, rfl, hB, .inl ⟨by rw [Array.getElem?_setIfInBounds_ne (by decide)]; exact h28, R8.set2 (hR) ?_⟩⟩
                rfl
              rcases i with _ | i
              · simp only [List.getElem?_toArray, List.getElem?_cons_succ, List.getElem?_cons_zero, Option.some.injEq] at ho
                subst ho
                rw [if_pos (by rfl)]
                clear hsz hi hLi
                obtain rfl := hR.f2 (haft { on := 2, ground := .data } (by simp) rfl)
                have c0 := (K3.step hk3 hB).1
                have c1 := (K3.step hk3 hB).2.1
                have HK := Aside.mk hK
                clear hK haft
                simp only [putA, Act.put, List.setIfInBounds_toArray, List.set_cons_zero, List.set_cons_succ]
                go_simp
                refine HK.out _ _ ?_
                simp only [J8, putA, Act.put, List.setIfInBounds_toArray, List.set_cons_zero, List.set_cons_succ]
                refine ⟨u42, u43, _, _, u46, u47, u48, u49, u50, u51, u52, u53, u54, u55, u56, u57, u58, u59, u60, u61, u62, u63, u64, u65, u66, u67, u68, u8, rfl, hB, .inl ⟨by rw [Array.getElem?_setIfInBounds_ne (by decide)]; exact h28, R8.set3 (hR) ?_⟩⟩
                rfl
              rcases i with _ | i
              · simp only [List.getElem?_toArray, List.getElem?_cons_succ, List.getElem?_cons_zero, Option.some.injEq] at ho
                subst ho
                rw [if_pos (by rfl)]
                clear hsz hi hLi
                obtain rfl := hR.f3 (haft { on := 3, ground := .data } (by simp) rfl)
                have HK := Aside.mk hK
                clear hK haft
                simp only [putA, Act.put, List.setIfInBounds_toArray, List.set_cons_zero, List.set_cons_succ]
                go_simp
                refine HK.out _ _ ?_
                simp only [J8, putA, Act.put, List.setIfInBounds_toArray, List.set_cons_zero, List.set_cons_succ]
                refine ⟨u42, u43, u44, _, _, u47, u48, u49, u50, u51, u52, u53, u54, u55, u56, u57, u58, u59, u60, u61, u62, u63, u64, u65, u66, u67, u68, u8, rfl, hB, .inl ⟨by rw [Array.getElem?_setIfInBounds_ne (by decide)]; exact h28, R8.set4 (hR) ?_⟩⟩
                rfl
              rcases i with _ | i
              · simp only [List.getElem?_toArray, List.getElem?_cons_succ, List.getElem?_cons_zero, Option.some.injEq] at ho
                subst ho
                rw [if_pos (by rfl)]
                clear hsz hi hLi
                obtain rfl := hR.f4 (haft { on := 4, ground := .data } (by simp) rfl)
                have HK := Aside.mk hK
                clear hK haft
                simp only [putA, Act.put, List.setIfInBounds_toArray, List.set_cons_zero, List.set_cons_succ]
                go_simp
                go_at_call 15
                refine (withinC _ _ (by decide) (by decide) _).mono ?_
                rintro e w' ⟨rfl, rfl⟩
                rw [withinV_wrap]
                rw [HX8.out]
                try simp only [putA, Act.put, List.setIfInBounds_toArray, List.set_cons_zero, List.set_cons_succ]
                refine HK.out _ _ ?_
                simp only [J8, putA, Act.put, List.setIfInBounds_toArray, List.set_cons_zero, List.set_cons_succ]
                refine ⟨u42, u43, u44, u45, _, _, u48, u49, u50, u51, u52, u53, u54, u55, u56, u57, u58, u59, u60, u61, u62, u63, u64, u65, u66, u67, u68, u8, rfl, hB, .inl ⟨by rw [Array.getElem?_setIfInBounds_ne (by decide)]; exact h28, R8.set5 (hR) ?_⟩⟩
                rfl
              rcases i with _ | i
              · simp only [List.getElem?_toArray, List.getElem?_cons_succ, List.getElem?_cons_zero, Option.some.injEq] at ho
                subst ho
                rw [if_pos (by rfl)]
                clear hsz hi hLi
                have hh0 := (hR.f0 (haft { on := 0, ground := .data } (by simp) rfl)).choose_spec
                generalize (hR.f0 (haft { on := 0, ground := .data } (by simp) rfl)).choose = n0 at hh0
                have ee0 := hh0.1
                have hn0 := hh0.2.1
                have hb0 := hh0.2.2
                clear hh0
                subst ee0
                obtain rfl := hR.f5 (haft { on := 5, ground := .data } (by simp) rfl)
                have HK := Aside.mk hK
                clear hK haft
                simp only [putA, Act.put, List.setIfInBounds_toArray, List.set_cons_zero, List.set_cons_succ]
                go_simp
                refine HK.out _ _ ?_
                simp only [J8, putA, Act.put, List.setIfInBounds_toArray, List.set_cons_zero, List.set_cons_succ]
                refine ⟨_, u43, u44, u45, u46, _, _, u49, u50, u51, u52, u53, u54, u55, u56, u57, u58, u59, u60, u61, u62, u63, u64, u65, u66, u67, u68, u8, rfl, hB, .inl ⟨by rw [Array.getElem?_setIfInBounds_ne (by decide)]; exact h28, R8.set6 (hR) ?_⟩⟩
                exact ⟨_, rfl, hn0, hb0⟩
              rcases i with _ | i
              · simp only [List.getElem?_toArray, List.getElem?_cons_succ, List.getElem?_cons_zero, Option.some.injEq] at ho
                subst ho
                rw [if_pos (by rfl)]
                clear hsz hi hLi
                have hh6 := (hR.f6 (haft { on := 6, ground := .data } (by simp) rfl)).choose_spec
                generalize (hR.f6 (haft { on := 6, ground := .data } (by simp) rfl)).choose = n6 at hh6
                have ee6 := hh6.1
                have hn6 := hh6.2.1
                have hb6 := hh6.2.2
                clear hh6
                subst ee6
                have c0 := kinds_cell hb6 hi8
                have HK := Aside.mk hK
                clear hK haft
                simp only [putA, Act.put, List.setIfInBounds_toArray, List.set_cons_zero, List.set_cons_succ]
                go_simp
                refine HK.out _ _ ?_
                simp only [J8, putA, Act.put, List.setIfInBounds_toArray, List.set_cons_zero, List.set_cons_succ]
                refine ⟨u42, u43, u44, u45, u46, u47, _, _, u50, u51, u52, u53, u54, u55, u56, u57, u58, u59, u60, u61, u62, u63, u64, u65, u66, u67, u68, u8, rfl, hB, .inl ⟨by rw [Array.getElem?_setIfInBounds_ne (by decide)]; exact h28, R8.set7 (hR) ?_⟩⟩
                rfl
              rcases i with _ | i
              · simp only [List.getElem?_toArray, List.getElem?_cons_succ, List.getElem?_cons_zero, Option.some.injEq] at ho
                subst ho
                rw [if_pos (by rfl)]
                clear hsz hi hLi
                have c0 := (K0.step hk0 hB).1
                have c1 := (K0.step hk0 hB).2.1
                have c2 := (K0.step hk0 hB).2.2
                have HK := Aside.mk hK
                clear hK haft
                simp only [putA, Act.put, List.setIfInBounds_toArray, List.set_cons_zero, List.set_cons_succ]
                go_simp
                refine HK.out _ _ ?_
                simp only [J8, putA, Act.put, List.setIfInBounds_toArray, List.set_cons_zero, List.set_cons_succ]
                refine ⟨u42, u43, u44, u45, u46, u47, u48, u49, _, u51, u52, u53, u54, u55, u56, u57, u58, u59, u60, u61, u62, u63, u64, u65, u66, u67, u68, u8, rfl, hB, .inl ⟨by rw [Array.getElem?_setIfInBounds_ne (by decide)]; exact h28, R8.set8 (hR) ?_⟩⟩
                rfl
              rcases i with _ | i
              · simp only [List.getElem?_toArray, List.getElem?_cons_succ, List.getElem?_cons_zero, Option.some.injEq] at ho
                subst ho
                rw [if_pos (by rfl)]
                clear hsz hi hLi
                have HK := Aside.mk hK
                clear hK haft
                simp only [putA, Act.put, List.setIfInBounds_toArray, List.set_cons_zero, List.set_cons_succ]
                go_simp
                refine HK.out _ _ ?_
                simp only [J8, putA, Act.put, List.setIfInBounds_toArray, List.set_cons_zero, List.set_cons_succ]
                refine ⟨u42, u43, u44, u45, u46, u47, u48, u49, u50, _, u52, u53, u54, u55, u56, u57, u58, u59, u60, u61, u62, u63, u64, u65, u66, u67, u68, u8, rfl, hB, .inl ⟨by rw [Array.getElem?_setIfInBounds_ne (by decide)]; exact h28, R8.set9 (hR) ?_⟩⟩
                rfl
              rcases i with _ | i
              · simp only [List.getElem?_toArray, List.getElem?_cons_succ, List.getElem?_cons_zero, Option.some.injEq] at ho
                subst ho
                rw [if_pos (by rfl)]
                clear hsz hi hLi
                have HK := Aside.mk hK
                clear hK haft
                simp only [putA, Act.put, List.setIfInBounds_toArray, List.set_cons_zero, List.set_cons_succ]
                go_simp
                refine HK.out _ _ ?_
                simp only [J8, putA, Act.put, List.setIfInBounds_toArray, List.set_cons_zero, List.set_cons_succ]
                refine ⟨u42, u43, u44, u45, u46, u47, u48, u49, u50, u51, _, u53, u54, u55, u56, u57, u58, u59, u60, u61, u62, u63, u64, u65, u66, u67, u68, u8, rfl, hB, .inl ⟨by rw [Array.getElem?_setIfInBounds_ne (by decide)]; exact h28, R8.set10 (hR) ?_⟩⟩
                rfl
              rcases i with _ | i
              · simp only [List.getElem?_toArray, List.getElem?_cons_succ, List.getElem?_cons_zero, Option.some.injEq] at ho
                subst ho
                rw [if_pos (by rfl)]
                clear hsz hi hLi
                have HK := Aside.mk hK
                clear hK haft
                simp only [putA, Act.put, List.setIfInBounds_toArray, List.set_cons_zero, List.set_cons_succ]
                go_simp
                refine HK.out _ _ ?_
                simp only [J8, putA, Act.put, List.setIfInBounds_toArray, List.set_cons_zero, List.set_cons_succ]
                refine ⟨u42, u43, u44, u45, u46, u47, u48, u49, u50, u51, u52, _, u54, u55, u56, u57, u58, u59, u60, u61, u62, u63, u64, u65, u66, u67, u68, u8, rfl, hB, .inl ⟨by rw [Array.getElem?_setIfInBounds_ne (by decide)]; exact h28, R8.set11 (hR) ?_⟩⟩
                rfl
              rcases i with _ | i
              · simp only [List.getElem?_toArray, List.getElem?_cons_succ, List.getElem?_cons_zero, Option.some.injEq] at ho
                subst ho
                rw [if_pos (by rfl)]
                clear hsz hi hLi
                obtain rfl := hR.f11 (haft { on := 11, ground := .data } (by simp) rfl)
                have HK := Aside.mk hK
                clear hK haft
                simp only [putA, Act.put, List.setIfInBounds_toArray, List.set_cons_zero, List.set_cons_succ]
                go_simp
                refine HK.out _ _ ?_
                simp only [J8, putA, Act.put, List.setIfInBounds_toArray, List.set_cons_zero, List.set_cons_succ]
                refine ⟨u42, u43, u44, u45, u46, u47, u48, u49, u50, u51, u52, _, _, u55, u56, u57, u58, u59, u60, u61, u62, u63, u64, u65, u66, u67, u68, u8, rfl, hB, .inl ⟨by rw [Array.getElem?_setIfInBounds_ne (by decide)]; exact h28, R8.set12 (hR) ?_⟩⟩
                rfl
              rcases i with _ | i
              · simp only [List.getElem?_toArray, List.getElem?_cons_succ, List.getElem?_cons_zero, Option.some.injEq] at ho
                subst ho
                rw [if_pos (by rfl)]
                clear hsz hi hLi
                obtain rfl := hR.f12 (haft { on := 12, ground := .data } (by simp) rfl)
                have c0 := (K3.step hk3 hB).1
                have c1 := (K3.step hk3 hB).2.1
                have HK := Aside.mk hK
                clear hK haft
                simp only [putA, Act.put, List.setIfInBounds_toArray, List.set_cons_zero, List.set_cons_succ]
                go_simp
                refine HK.out _ _ ?_
                simp only [J8, putA, Act.put, List.setIfInBounds_toArray, List.set_cons_zero, List.set_cons_succ]
                refine ⟨u42, u43, u44, u45, u46, u47, u48, u49, u50, u51, u52, u53, _, _, u56, u57, u58, u59, u60, u61, u62, u63, u64, u65, u66, u67, u68, u8, rfl, hB, .inl ⟨by rw [Array.getElem?_setIfInBounds_ne (by decide)]; exact h28, R8.set13 (hR) ?_⟩⟩
                rfl
              rcases i with _ | i
              · simp only [List.getElem?_toArray, List.getElem?_cons_succ, List.getElem?_cons_zero, Option.some.injEq] at ho
                subst ho
                rw [if_pos (by rfl)]
                clear hsz hi hLi
                obtain rfl := hR.f13 (haft { on := 13, ground := .data } (by simp) rfl)
                have HK := Aside.mk hK
                clear hK haft
                simp only [putA, Act.put, List.setIfInBounds_toArray, List.set_cons_zero, List.set_cons_succ]
                go_simp
                go_at_call 15
                refine (withinC _ _ (by decide) (by decide) _).mono ?_
                rintro e w' ⟨rfl, rfl⟩
                try simp only [putA, Act.put, List.setIfInBounds_toArray, List.set_cons_zero, List.set_cons_succ]
                refine HK.out _ _ ?_
                simp only [J8, putA, Act.put, List.setIfInBounds_toArray, List.set_cons_zero, List.set_cons_succ]
                refine ⟨u42, u43, u44, u45, u46, u47, u48, u49, u50, u51, u52, u53, u54, _, _, u57, u58, u59, u60, u61, u62, u63, u64, u65, u66, u67, u68, u8, rfl, hB, .inl ⟨by rw [Array.getElem?_setIfInBounds_ne (by decide)]; exact h28, R8.set14 (hR) ?_⟩⟩
                rfl
              rcases i with _ | i
              · simp only [List.getElem?_toArray, List.getElem?_cons_succ, List.getElem?_cons_zero, Option.some.injEq] at ho
                subst ho
                rw [if_pos (by rfl)]
                clear hsz hi hLi
                have HK := Aside.mk hK
                clear hK haft
                simp only [putA, Act.put, List.setIfInBounds_toArray, List.set_cons_zero, List.set_cons_succ]
                go_simp
                refine HK.out _ _ ?_
                simp only [J8, putA, Act.put, List.setIfInBounds_toArray, List.set_cons_zero, List.set_cons_succ]
                refine ⟨u42, u43, u44, u45, u46, u47, u48, u49, u50, u51, u52, u53, u54, u55, u56, _, u58, u59, u60, u61, u62, u63, u64, u65, u66, u67, u68, u8, rfl, hB.alloc hB.size _, .inl ⟨by rw [Array.getElem?_setIfInBounds_ne (by decide)]; exact h28, R8.set15 (hR.below ((Below.refl _ _).alloc (Nat.le_refl _) _)) ?_⟩⟩
                exact ⟨_, rfl, hB.size, Bk.made _ _ _⟩
              rcases i with _ | i
              · simp only [List.getElem?_toArray, List.getElem?_cons_succ, List.getElem?_cons_zero, Option.some.injEq] at ho
                subst ho
                rw [if_pos (by rfl)]
                clear hsz hi hLi
                have HK := Aside.mk hK
                clear hK haft
                simp only [putA, Act.put, List.setIfInBounds_toArray, List.set_cons_zero, List.set_cons_succ]
                go_simp
                refine HK.out _ _ ?_
                simp only [J8, putA, Act.put, List.setIfInBounds_toArray, List.set_cons_zero, List.set_cons_succ]
                refine ⟨u42, u43, u44, u45, u46, u47, u48, u49, u50, u51, u52, u53, u54, u55, u56, u57, _, u59, u60, u61, u62, u63, u64, u65, u66, u67, u68, u8, rfl, hB, .inl ⟨by rw [Array.getElem?_setIfInBounds_ne (by decide)]; exact h28, R8.set16 (hR) ?_⟩⟩
                rfl
              rcases i with _ | i
              · simp only [List.getElem?_toArray, List.getElem?_cons_succ, List.getElem?_cons_zero, Option.some.injEq] at ho
                subst ho
                rw [if_pos (by rfl)]
                clear hsz hi hLi
                obtain rfl := hR.f16 (haft { on := 16, ground := .data } (by simp) rfl)
                have HK := Aside.mk hK
                clear hK haft
                simp only [putA, Act.put, List.setIfInBounds_toArray, List.set_cons_zero, List.set_cons_succ]
                go_simp
                refine HK.out _ _ ?_
                simp only [J8, putA, Act.put, List.setIfInBounds_toArray, List.set_cons_zero, List.set_cons_succ]
                refine ⟨u42, u43, u44, u45, u46, u47, u48, u49, u50, u51, u52, u53, u54, u55, u56, u57, _, _, u60, u61, u62, u63, u64, u65, u66, u67, u68, u8, rfl, hB, .inl ⟨by rw [Array.getElem?_setIfInBounds_ne (by decide)]; exact h28, R8.set17 (hR) ?_⟩⟩
                rfl
              rcases i with _ | i
              · simp only [List.getElem?_toArray, List.getElem?_cons_succ, List.getElem?_cons_zero, Option.some.injEq] at ho
                subst ho
                rw [if_pos (by rfl)]
                clear hsz hi hLi
                obtain rfl := hR.f17 (haft { on := 17, ground := .data } (by simp) rfl)
                have c0 := (K3.step hk3 hB).1
                have c1 := (K3.step hk3 hB).2.1
                have HK := Aside.mk hK
                clear hK haft
                simp only [putA, Act.put, List.setIfInBounds_toArray, List.set_cons_zero, List.set_cons_succ]
                go_simp
                refine HK.out _ _ ?_
                simp only [J8, putA, Act.put, List.setIfInBounds_toArray, List.set_cons_zero, List.set_cons_succ]
                refine ⟨u42, u43, u44, u45, u46, u47, u48, u49, u50, u51, u52, u53, u54, u55, u56, u57, u58, _, _, u61, u62, u63, u64, u65, u66, u67, u68, u8, rfl, hB, .inl ⟨by rw [Array.getElem?_setIfInBounds_ne (by decide)]; exact h28, R8.set18 (hR) ?_⟩⟩
                rfl
              rcases i with _ | i
              · simp only [List.getElem?_toArray, List.getElem?_cons_succ, List.getElem?_cons_zero, Option.some.injEq] at ho
                subst ho
                rw [if_pos (by rfl)]
                clear hsz hi hLi
                obtain rfl := hR.f18 (haft { on := 18, ground := .data } (by simp) rfl)
                have HK := Aside.mk hK
                clear hK haft
                simp only [putA, Act.put, List.setIfInBounds_toArray, List.set_cons_zero, List.set_cons_succ]
                go_simp
                go_at_call 15
                refine (withinC _ _ (by decide) (by decide) _).mono ?_
                rintro e w' ⟨rfl, rfl⟩
                rw [HY2.out]
                try simp only [putA, Act.put, List.setIfInBounds_toArray, List.set_cons_zero, List.set_cons_succ]
                refine HK.out _ _ ?_
                simp only [J8, putA, Act.put, List.setIfInBounds_toArray, List.set_cons_zero, List.set_cons_succ]
                refine ⟨u42, u43, u44, u45, u46, u47, u48, u49, u50, u51, u52, u53, u54, u55, u56, u57, u58, u59, _, _, u62, u63, u64, u65, u66, u67, u68, u8, rfl, hB, .inl ⟨by rw [Array.getElem?_setIfInBounds_ne (by decide)]; exact h28, R8.set19 (hR) ?_⟩⟩
                rfl
              rcases i with _ | i
              · simp only [List.getElem?_toArray, List.getElem?_cons_succ, List.getElem?_cons_zero, Option.some.injEq] at ho
                subst ho
                rw [if_pos (by rfl)]
                clear hsz hi hLi
                have hh15 := (hR.f15 (haft { on := 15, ground := .data } (by simp) rfl)).choose_spec
                generalize (hR.f15 (haft { on := 15, ground := .data } (by simp) rfl)).choose = n15 at hh15
                have ee15 := hh15.1
                have hn15 := hh15.2.1
                have hb15 := hh15.2.2
                clear hh15
                subst ee15
                obtain rfl := hR.f19 (haft { on := 19, ground := .data } (by simp) rfl)
                have HK := Aside.mk hK
                clear hK haft
                simp only [putA, Act.put, List.setIfInBounds_toArray, List.set_cons_zero, List.set_cons_succ]
                go_simp
                refine HK.out _ _ ?_
                simp only [J8, putA, Act.put, List.setIfInBounds_toArray, List.set_cons_zero, List.set_cons_succ]
                refine ⟨u42, u43, u44, u45, u46, u47, u48, u49, u50, u51, u52, u53, u54, u55, u56, _, u58, u59, u60, _, _, u63, u64, u65, u66, u67, u68, u8, rfl, hB, .inl ⟨by rw [Array.getElem?_setIfInBounds_ne (by decide)]; exact h28, R8.set20 (hR) ?_⟩⟩
                exact ⟨_, rfl, hn15, hb15⟩
              rcases i with _ | i
              · simp only [List.getElem?_toArray, List.getElem?_cons_succ, List.getElem?_cons_zero, Option.some.injEq] at ho
                subst ho
                rw [if_pos (by rfl)]
                clear hsz hi hLi
                have hh20 := (hR.f20 (haft { on := 20, ground := .data } (by simp) rfl)).choose_spec
                generalize (hR.f20 (haft { on := 20, ground := .data } (by simp) rfl)).choose = n20 at hh20
                have ee20 := hh20.1
                have hn20 := hh20.2.1
                have hb20 := hh20.2.2
                clear hh20
                subst ee20
                have c0 := xy_cell hb20 hi2
                have HK := Aside.mk hK
                clear hK haft
                simp only [putA, Act.put, List.setIfInBounds_toArray, List.set_cons_zero, List.set_cons_succ]
                go_simp
                refine HK.out _ _ ?_
                simp only [J8, putA, Act.put, List.setIfInBounds_toArray, List.set_cons_zero, List.set_cons_succ]
                refine ⟨u42, u43, u44, u45, u46, u47, u48, u49, u50, u51, u52, u53, u54, u55, u56, u57, u58, u59, u60, u61, _, _, u64, u65, u66, u67, u68, u8, rfl, hB, .inl ⟨by rw [Array.getElem?_setIfInBounds_ne (by decide)]; exact h28, R8.set21 (hR) ?_⟩⟩
                rfl
              rcases i with _ | i
              · simp only [List.getElem?_toArray, List.getElem?_cons_succ, List.getElem?_cons_zero, Option.some.injEq] at ho
                subst ho
                rw [if_pos (by rfl)]
                clear hsz hi hLi
                obtain rfl := hR.f21 (haft { on := 21, ground := .data } (by simp) rfl)
                have HK := Aside.mk hK
                clear hK haft
                simp only [putA, Act.put, List.setIfInBounds_toArray, List.set_cons_zero, List.set_cons_succ]
                go_simp
                refine HK.out _ _ ?_
                simp only [J8, putA, Act.put, List.setIfInBounds_toArray, List.set_cons_zero, List.set_cons_succ]
                refine ⟨u42, u43, u44, u45, u46, u47, u48, u49, u50, u51, u52, u53, u54, u55, u56, u57, u58, u59, u60, u61, u62, _, _, u65, u66, u67, u68, u8, rfl, hB, .inl ⟨by rw [Array.getElem?_setIfInBounds_ne (by decide)]; exact h28, R8.set22 (hR) ?_⟩⟩
                rfl
              rcases i with _ | i
              · simp only [List.getElem?_toArray, List.getElem?_cons_succ, List.getElem?_cons_zero, Option.some.injEq] at ho
                subst ho
                rw [if_pos (by rfl)]
                clear hsz hi hLi
                obtain rfl := hR.f22 (haft { on := 22, ground := .data } (by simp) rfl)
                have HK := Aside.mk hK
                clear hK haft
                simp only [putA, Act.put, List.setIfInBounds_toArray, List.set_cons_zero, List.set_cons_succ]
                go_simp
                refine HK.out _ _ ?_
                simp only [J8, putA, Act.put, List.setIfInBounds_toArray, List.set_cons_zero, List.set_cons_succ]
                refine ⟨u42, u43, u44, u45, u46, u47, u48, u49, u50, u51, u52, u53, u54, u55, u56, u57, u58, u59, u60, u61, u62, u63, _, _, u66, u67, u68, u8, rfl, hB.alloc hB.size _, .inl ⟨by rw [Array.getElem?_setIfInBounds_ne (by decide)]; exact h28, R8.set23 (hR.below ((Below.refl _ _).alloc (Nat.le_refl _) _)) ?_⟩⟩
                exact ⟨_, rfl, hB.size, Bk.made _ _ _⟩
              rcases i with _ | i
              · simp only [List.getElem?_toArray, List.getElem?_cons_succ, List.getElem?_cons_zero, Option.some.injEq] at ho
                subst ho
                rw [if_pos (by rfl)]
                clear hsz hi hLi
                obtain rfl := hR.f10 (haft { on := 10, ground := .data } (by simp) rfl)
                obtain rfl := hR.f14 (haft { on := 14, ground := .data } (by simp) rfl)
                have hh23 := (hR.f23 (haft { on := 23, ground := .data } (by simp) rfl)).choose_spec
                generalize (hR.f23 (haft { on := 23, ground := .data } (by simp) rfl)).choose = n23 at hh23
                have ee23 := hh23.1
                have hn23 := hh23.2.1
                have hb23 := hh23.2.2
                clear hh23
                subst ee23
                have HK := Aside.mk hK
                clear hK haft
                simp only [putA, Act.put, List.setIfInBounds_toArray, List.set_cons_zero, List.set_cons_succ]
                go_simp
                refine HK.out _ _ ?_
                simp only [J8, putA, Act.put, List.setIfInBounds_toArray, List.set_cons_zero, List.set_cons_succ]
                refine ⟨u42, u43, u44, u45, u46, u47, u48, u49, u50, u51, _, u53, u54, u55, _, u57, u58, u59, u60, u61, u62, u63, u64, _, _, u67, u68, u8, rfl, hB, .inl ⟨by rw [Array.getElem?_setIfInBounds_ne (by decide)]; exact h28, R8.set24 (hR) ?_⟩⟩
                exact ⟨_, rfl, hn23, hb23⟩
              rcases i with _ | i
              · simp only [List.getElem?_toArray, List.getElem?_cons_succ, List.getElem?_cons_zero, Option.some.injEq] at ho
                subst ho
                rw [if_pos (by rfl)]
                clear hsz hi hLi
                have HK := Aside.mk hK
                clear hK haft
                simp only [putA, Act.put, List.setIfInBounds_toArray, List.set_cons_zero, List.set_cons_succ]
                go_simp
                refine HK.out _ _ ?_
                simp only [J8, putA, Act.put, List.setIfInBounds_toArray, List.set_cons_zero, List.set_cons_succ]
                refine ⟨u42, u43, u44, u45, u46, u47, u48, u49, u50, u51, u52, u53, u54, u55, u56, u57, u58, u59, u60, u61, u62, u63, u64, u65, u66, _, u68, u8, rfl, hB, .inl ⟨by rw [Array.getElem?_setIfInBounds_ne (by decide)]; exact h28, R8.set25 (hR) ?_⟩⟩
                rfl
              rcases i with _ | i
              · simp only [List.getElem?_toArray, List.getElem?_cons_succ, List.getElem?_cons_zero, Option.some.injEq] at ho
                subst ho
                rw [if_pos (by rfl)]
                clear hsz hi hLi
                obtain rfl := hR.f7 (haft { on := 7, ground := .data } (by simp) rfl)
                obtain rfl := hR.f8 (haft { on := 8, ground := .data } (by simp) rfl)
                obtain rfl := hR.f9 (haft { on := 9, ground := .data } (by simp) rfl)
                have hh24 := (hR.f24 (haft { on := 24, ground := .data } (by simp) rfl)).choose_spec
                generalize (hR.f24 (haft { on := 24, ground := .data } (by simp) rfl)).choose = n24 at hh24
                have ee24 := hh24.1
                have hn24 := hh24.2.1
                have hb24 := hh24.2.2
                clear hh24
                subst ee24
                obtain rfl := hR.f25 (haft { on := 25, ground := .data } (by simp) rfl)
                have HK := Aside.mk hK
                clear hK haft
                simp only [putA, Act.put, List.setIfInBounds_toArray, List.set_cons_zero, List.set_cons_succ]
                go_simp
                refine HK.out _ _ ?_
                simp only [J8, putA, Act.put, List.setIfInBounds_toArray, List.set_cons_zero, List.set_cons_succ]
                refine ⟨u42, u43, u44, u45, u46, u47, u48, _, _, _, u52, u53, u54, u55, u56, u57, u58, u59, u60, u61, u62, u63, u64, u65, _, _, _, u8, rfl, hB, .inl ⟨by rw [Array.getElem?_setIfInBounds_ne (by decide)]; exact h28, R8.set26 (hR) ?_⟩⟩
                exact ⟨_, rfl, hn24, hb24⟩
              rcases i with _ | i
              · simp only [List.getElem?_toArray, List.getElem?_cons_succ, List.getElem?_cons_zero, Option.some.injEq] at ho
                subst ho
                rw [if_pos (by rfl)]
                clear hsz hi hLi
                have HK := Aside.mk hK
                clear hK haft
                simp only [putA, Act.put, List.setIfInBounds_toArray, List.set_cons_zero, List.set_cons_succ]
                go_simp
                refine HK.out _ _ ?_
                simp only [J8, putA, Act.put, List.setIfInBounds_toArray, List.set_cons_zero, List.set_cons_succ]
                refine ⟨u42, u43, u44, u45, u46, u47, u48, u49, u50, u51, u52, u53, u54, u55, u56, u57, u58, u59, u60, u61, u62, u63, u64, u65, u66, u67, u68, _, rfl, hB.alloc hB.size _, .inl ⟨by rw [Array.getElem?_setIfInBounds_ne (by decide)]; exact h28, R8.set27 (hR.below ((Below.refl _ _).alloc (Nat.le_refl _) _)) ?_⟩⟩
                exact ⟨_, rfl, hB.size, Bk.made _ _ _⟩
              rcases i with _ | i
              · simp only [List.getElem?_toArray, List.getElem?_cons_succ, List.getElem?_cons_zero, Option.some.injEq] at ho
                subst ho
                rw [if_pos (by rfl)]
                have HSZ := Aside.mk hsz
                clear hsz hi hLi
                have hh27 := (hR.f27 (haft { on := 27, ground := .data } (by simp) rfl)).choose_spec
                generalize (hR.f27 (haft { on := 27, ground := .data } (by simp) rfl)).choose = n27 at hh27
                have ee27 := hh27.1
                have hn27 := hh27.2.1
                have hb27 := hh27.2.2
                clear hh27
                subst ee27
                have hh26 := (hR.f26 (haft { on := 26, ground := .data } (by simp) rfl)).choose_spec
                generalize (hR.f26 (haft { on := 26, ground := .data } (by simp) rfl)).choose = n26 at hh26
                have ee26 := hh26.1
                have hn26 := hh26.2.1
                have hb26 := hh26.2.2
                clear hh26
                subst ee26
                have HK := Aside.mk hK
                have HAF : Aside (∀ j, j < 28 → L'[j]? = some true) := ⟨fun j hj => by
                  have hc : j = 0 ∨ j = 1 ∨ j = 2 ∨ j = 3 ∨ j = 4 ∨ j = 5 ∨ j = 6 ∨ j = 7 ∨ j = 8 ∨ j = 9 ∨ j = 10 ∨ j = 11 ∨ j = 12 ∨ j = 13 ∨ j = 14 ∨ j = 15 ∨ j = 16 ∨ j = 17 ∨ j = 18 ∨ j = 19 ∨ j = 20 ∨ j = 21 ∨ j = 22 ∨ j = 23 ∨ j = 24 ∨ j = 25 ∨ j = 26 ∨ j = 27 := by omega
                  rcases hc with rfl | rfl | rfl | rfl | rfl | rfl | rfl | rfl | rfl | rfl | rfl | rfl | rfl | rfl | rfl | rfl | rfl | rfl | rfl | rfl | rfl | rfl | rfl | rfl | rfl | rfl | rfl | rfl <;> exact haft { on := _, ground := .phase } (by simp) rfl⟩
                clear hK haft
                simp only [putA, Act.put, List.setIfInBounds_toArray, List.set_cons_zero, List.set_cons_succ]
                have hfz := hb27.frozen
                have hcl := hb27.cell
                go_simp
                clear hfz hcl
                refine HK.out _ _ ?_
                simp only [J8, putA, Act.put, List.setIfInBounds_toArray, List.set_cons_zero, List.set_cons_succ]
                have hne : n26 ≠ n27 := hb26.ne hb27 (by simp)
                refine ⟨_, _, _, _, _, _, _, _, _, _, _, _, _, _, _, _, _, _, _, _, _, _, _, _, _, _, _, _, rfl, below12 hB hn27, .inr ⟨fun j hj => ?_, _, _, rfl, hn27, hn26, hb27.set12, hb26.other12 hne⟩⟩
                by_cases h28 : 28 = j
                · subst h28
                  rw [Array.getElem?_setIfInBounds_self_of_lt (by rw [HSZ.out]; decide)]
                · rw [Array.getElem?_setIfInBounds_ne h28]
                  exact HAF.out j (by omega)
              exact absurd hi (by simp)
            · intro L' a w' hall hJ
              obtain ⟨u42, u43, u44, u45, u46, u47, u48, u49, u50, u51, u52, u53, u54, u55, u56, u57, u58, u59, u60, u61, u62, u63, u64, u65, u66, u67, u68, u8, rfl, hB, hJ⟩ := hJ
              rcases hJ with ⟨h28, _⟩ | ⟨_, n, nf, rfl, h1, h2, h3, h4⟩
              · rw [hall 28 (by decide)] at h28
                cases h28
              · subst hA
                simp only [putA, Act.put, List.setIfInBounds_toArray, List.set_cons_zero, List.set_cons_succ]
                go_wp2_with fail
                go_meet
                exact ⟨n, nf, rfl, ⟨h3, h4, Nat.le_trans hBw8.size h2, below_step hBw8 hB⟩, ⟨Nat.le_trans hBw8.size h1⟩⟩
          case rest =>
            obtain ⟨n8, nf, rfl, hcut, HN8⟩ := hcut
            have hop : opsOne (x :: y :: z :: r) = [⟨kindsL[i8]?.getD 0, ⟨withinV x 3, withinV y 2, withinV z 30⟩, if kindsL[i8]?.getD 0 = 1 then rules4 else [], ⟨abcS[i3]?.getD ⟨#[]⟩, withinV y 8, [⟨⟨#[107]⟩, xyS[i2]?.getD ⟨#[]⟩⟩], []⟩, abcS[i3]?.getD ⟨#[]⟩, ⟨⟨#[107]⟩, ⟨#[120]⟩⟩⟩] := by
              show [opOf x y z] = _
              unfold opOf opR opK opId opVl
              rw [HX8.out, HI3.out, HY2.out]
              rfl
            rw [hop] at hst
            clear hop HX8 HI3 HY2 hk0 hk3 hW8
            generalize kindsL[i8]?.getD 0 = kd at *
            generalize abcS[i3]?.getD ⟨#[]⟩ = idb at *
            generalize xyS[i2]?.getD ⟨#[]⟩ = vlb at *
            have HLN : Aside (((opsK (L.take k)).length + 1) * 176 ≤ 140737488355328) := ⟨by have := opsK_len (L.take k); rw [List.length_take] at this; omega⟩
            have hOlt := HO.out.lt
            have HO2 := Aside.mk (HO.out.below hcut.out.2.2.2)
            have HB2 := Aside.mk (below_step HB.out hcut.out.2.2.2)
            have hb8 := hcut.out.1
            have HBF := Aside.mk hcut.out.2.1
            have HBW := Aside.mk hcut.out.2.2.2
            have hnf : w.heap.size ≤ nf ∧ ∀ j, (Value.slice Ao (opsK (L.take k)).length co).ownBlock = some j → j < nf := ⟨Nat.le_trans HB.out.size hcut.out.2.2.1, fun j hj => Nat.lt_of_lt_of_le (hOlt j hj).2 hcut.out.2.2.1⟩
            have HNF := Aside.mk hnf
            clear hcut hnf hOlt
            by_cases hk1 : kd = 1
            · rw [if_pos hk1] at hst
              subst hk1
              have HE := Aside.mk hst
              clear hst
              have hr4 : rulR.Row (wc.alloc (.cells #[.int .i64 0, .int .i64 (-1), .int .i64 0, .int .i64 40, .int .i64 1, .bool true, .int .i64 1, .int .i64 (-1), .int .i64 0, .int .i64 20, .int .i64 3, .bool true, .int .i64 2, .int .i64 0, .int .i64 0, .int .i64 40, .int .i64 7, .bool true, .int .i64 (-1), .int .i64 (-1), .int .i64 10, .int .i64 12, .int .i64 2, .bool false] 89)) (fun k => k = wc.heap.size) (some ⟨wc.heap.size, 0, none⟩) rules4 := rulesLit wc rules4 (by decide)
              have q00 : wc.cell? ⟨n8, 0, none⟩ = some (.int .i64 1) := hb8.cell 0
              have hne : n8 ≠ wc.heap.size := Nat.ne_of_lt hb8.lt
              have q := (hb8.alloc (.cells #[.int .i64 0, .int .i64 (-1), .int .i64 0, .int .i64 40, .int .i64 1, .bool true, .int .i64 1, .int .i64 (-1), .int .i64 0, .int .i64 20, .int .i64 3, .bool true, .int .i64 2, .int .i64 0, .int .i64 0, .int .i64 40, .int .i64 7, .bool true, .int .i64 (-1), .int .i64 (-1), .int .i64 10, .int .i64 12, .int .i64 2, .bool false] 89)).doz
              have hb81 := (hb8.alloc (.cells #[.int .i64 0, .int .i64 (-1), .int .i64 0, .int .i64 40, .int .i64 1, .bool true, .int .i64 1, .int .i64 (-1), .int .i64 0, .int .i64 20, .int .i64 3, .bool true, .int .i64 2, .int .i64 0, .int .i64 0, .int .i64 40, .int .i64 7, .bool true, .int .i64 (-1), .int .i64 (-1), .int .i64 10, .int .i64 12, .int .i64 2, .bool false] 89)).set 4 (.slice (some ⟨wc.heap.size, 0, none⟩) 4 4)
              have qq := Bk.doz (show Bk ((wc.alloc (.cells #[.int .i64 0, .int .i64 (-1), .int .i64 0, .int .i64 40, .int .i64 1, .bool true, .int .i64 1, .int .i64 (-1), .int .i64 0, .int .i64 20, .int .i64 3, .bool true, .int .i64 2, .int .i64 0, .int .i64 0, .int .i64 40, .int .i64 7, .bool true, .int .i64 (-1), .int .i64 (-1), .int .i64 10, .int .i64 12, .int .i64 2, .bool false] 89)).setCell ⟨n8, 4, none⟩ (.slice (some ⟨wc.heap.size, 0, none⟩) 4 4)) n8 [.int .i64 1, .int .i64 (withinV x 3), .int .i64 (withinV y 2), .int .i64 (withinV z 30), .slice (some ⟨wc.heap.size, 0, none⟩) 4 4, .string idb, .int .i64 (withinV y 8), .slice (some ⟨nf, 0, none⟩) 1 1, .slice none 0 0, .string idb, .string ⟨#[107]⟩, .string ⟨#[120]⟩] from hb81)
              have hO2 := (HO.out.mono (ok' := fun j => w.heap.size ≤ j ∧ j < wr.heap.size) fun j h1 h2 => ⟨h1, h2⟩)
              have hO3 := ((hO2.below HBW.out).below (Below.alloc (Below.refl _ wc) (Nat.le_refl _) (.cells #[.int .i64 0, .int .i64 (-1), .int .i64 0, .int .i64 40, .int .i64 1, .bool true, .int .i64 1, .int .i64 (-1), .int .i64 0, .int .i64 20, .int .i64 3, .bool true, .int .i64 2, .int .i64 0, .int .i64 0, .int .i64 40, .int .i64 7, .bool true, .int .i64 (-1), .int .i64 (-1), .int .i64 10, .int .i64 12, .int .i64 2, .bool false] 89))).grown (grown_set _ n8 4 (.slice (some ⟨wc.heap.size, 0, none⟩) 4 4)) (fun j hj e => by
                injection e with e
                have h1 := (HO.out.lt j hj).2
                have h2 := HN8.out
                omega) (fun j hj e => by
                injection e with e
                have h2 := HN8.out
                omega)
              have hO4 := hO3.mono (ok' := fun j => w.heap.size ≤ j) fun j h1 _ => h1.1
              have HO3 := Aside.mk hO4
              have HB3 := Aside.mk (below_set (HB2.out.alloc HB2.out.size (.cells #[.int .i64 0, .int .i64 (-1), .int .i64 0, .int .i64 40, .int .i64 1, .bool true, .int .i64 1, .int .i64 (-1), .int .i64 0, .int .i64 20, .int .i64 3, .bool true, .int .i64 2, .int .i64 0, .int .i64 0, .int .i64 40, .int .i64 7, .bool true, .int .i64 (-1), .int .i64 (-1), .int .i64 10, .int .i64 12, .int .i64 2, .bool false] 89)) (p := ⟨n8, 4, none⟩) (Nat.le_trans HB.out.size HN8.out) (.slice (some ⟨wc.heap.size, 0, none⟩) 4 4))
              have hbf1 := (HBF.out.alloc (.cells #[.int .i64 0, .int .i64 (-1), .int .i64 0, .int .i64 40, .int .i64 1, .bool true, .int .i64 1, .int .i64 (-1), .int .i64 0, .int .i64 20, .int .i64 3, .bool true, .int .i64 2, .int .i64 0, .int .i64 0, .int .i64 40, .int .i64 7, .bool true, .int .i64 (-1), .int .i64 (-1), .int .i64 10, .int .i64 12, .int .i64 2, .bool false] 89)).other (m := n8) (o := 4) (HBF.out.ne hb8 (by simp)) (.slice (some ⟨wc.heap.size, 0, none⟩) 4 4)
              have hr41 := hr4.move (w1 := ((wc.alloc (.cells #[.int .i64 0, .int .i64 (-1), .int .i64 0, .int .i64 40, .int .i64 1, .bool true, .int .i64 1, .int .i64 (-1), .int .i64 0, .int .i64 20, .int .i64 3, .bool true, .int .i64 2, .int .i64 0, .int .i64 0, .int .i64 40, .int .i64 7, .bool true, .int .i64 (-1), .int .i64 (-1), .int .i64 10, .int .i64 12, .int .i64 2, .bool false] 89)).setCell ⟨n8, 4, none⟩ (.slice (some ⟨wc.heap.size, 0, none⟩) 4 4))) fun j hj _ => Below.heap_setCell _ _ _ j (by
                have h : j = wc.heap.size := hj
                rw [h]
                exact hne.symm)
              have HS1 := Aside.mk (And.intro hbf1 hr41)
              have HCR : Aside (w.heap.size ≤ wc.heap.size ∧ ∀ j, (Value.slice Ao (opsK (L.take k)).length co).ownBlock = some j → j < wc.heap.size) := ⟨HB2.out.size, fun j hj => (HO2.out.lt j hj).2⟩
              clear hO2 hO3 hO4 hbf1 hr41 hr4 hb81 hb8
              go_upto_region 11 with fail
              change Code.wp _ _ _ _ ((wc.alloc (.cells #[.int .i64 0, .int .i64 (-1), .int .i64 0, .int .i64 40, .int .i64 1, .bool true, .int .i64 1, .int .i64 (-1), .int .i64 0, .int .i64 20, .int .i64 3, .bool true, .int .i64 2, .int .i64 0, .int .i64 0, .int .i64 40, .int .i64 7, .bool true, .int .i64 (-1), .int .i64 (-1), .int .i64 10, .int .i64 12, .int .i64 2, .bool false] 89)).setCell ⟨n8, 4, none⟩ (.slice (some ⟨wc.heap.size, 0, none⟩) 4 4))
              generalize hW1 : ((wc.alloc (.cells #[.int .i64 0, .int .i64 (-1), .int .i64 0, .int .i64 40, .int .i64 1, .bool true, .int .i64 1, .int .i64 (-1), .int .i64 0, .int .i64 20, .int .i64 3, .bool true, .int .i64 2, .int .i64 0, .int .i64 0, .int .i64 40, .int .i64 7, .bool true, .int .i64 (-1), .int .i64 (-1), .int .i64 10, .int .i64 12, .int .i64 2, .bool false] 89)).setCell ⟨n8, 4, none⟩ (.slice (some ⟨wc.heap.size, 0, none⟩) 4 4)) = W1 at *
              clear q q00 hW1
              have HKY : Aside (opRp.K (W1.alloc (.cells #[.int .i64 1, .int .i64 (withinV x 3), .int .i64 (withinV y 2), .int .i64 (withinV z 30), .slice (some ⟨wc.heap.size, 0, none⟩) 4 4, .string idb, .int .i64 (withinV y 8), .slice (some ⟨nf, 0, none⟩) 1 1, .slice none 0 0, .string idb, .string ⟨#[107]⟩, .string ⟨#[120]⟩] 40)) (fun j => w.heap.size ≤ j ∧ some j ≠ (Value.slice Ao (opsK (L.take k)).length co).ownBlock) ⟨1, ⟨withinV x 3, withinV y 2, withinV z 30⟩, rules4, ⟨idb, withinV y 8, [⟨⟨#[107]⟩, vlb⟩], []⟩, idb, ⟨⟨#[107]⟩, ⟨#[120]⟩⟩⟩ [.int .i64 1, .int .i64 (withinV x 3), .int .i64 (withinV y 2), .int .i64 (withinV z 30), .slice (some ⟨wc.heap.size, 0, none⟩) 4 4, .string idb, .int .i64 (withinV y 8), .slice (some ⟨nf, 0, none⟩) 1 1, .slice none 0 0, .string idb, .string ⟨#[107]⟩, .string ⟨#[120]⟩]) :=
                ⟨_, _, _, rfl, ⟨_, 4, rfl, Nat.le_refl _, (HS1.out.2.mono fun j hj _ => by
                    obtain rfl : j = wc.heap.size := hj
                    exact ⟨HCR.out.1, fun e => Nat.lt_irrefl _ (HCR.out.2 _ e.symm)⟩).below ((Below.refl _ _).alloc (Nat.le_refl _) _)⟩, sl_fld1 (x := ⟨⟨#[107]⟩, vlb⟩) (HS1.out.1.alloc _) ⟨HNF.out.1, fun e => Nat.lt_irrefl _ (HNF.out.2 nf e.symm)⟩, Sl.nil _ _ _⟩
              go_wp2_with (at_builtin
                           refine list_one (w0 := W1.alloc (.cells #[.int .i64 1, .int .i64 (withinV x 3), .int .i64 (withinV y 2), .int .i64 (withinV z 30), .slice (some ⟨wc.heap.size, 0, none⟩) 4 4, .string idb, .int .i64 (withinV y 8), .slice (some ⟨nf, 0, none⟩) 1 1, .slice none 0 0, .string idb, .string ⟨#[107]⟩, .string ⟨#[120]⟩] 40)) opRp w.heap.size rfl (.tmp 78) (.tmp 80) 28 40 zeroOp 176 rfl Tryz.underlying28 infoOp rfl (by decide) (by decide) (.slice Ao (opsK (L.take k)).length co) (opsK (L.take k)) ⟨1, ⟨withinV x 3, withinV y 2, withinV z 30⟩, rules4, ⟨idb, withinV y 8, [⟨⟨#[107]⟩, vlb⟩], []⟩, idb, ⟨⟨#[107]⟩, ⟨#[120]⟩⟩⟩ [.int .i64 1, .int .i64 (withinV x 3), .int .i64 (withinV y 2), .int .i64 (withinV z 30), .slice (some ⟨wc.heap.size, 0, none⟩) 4 4, .string idb, .int .i64 (withinV y 8), .slice (some ⟨nf, 0, none⟩) 1 1, .slice none 0 0, .string idb, .string ⟨#[107]⟩, .string ⟨#[120]⟩] (fun j => w.heap.size ≤ j) W1.heap.size 1 rfl rfl (blk_new W1 _ _) HKY.out (HO3.out.below ((Below.refl _ _).alloc (Nat.le_refl _) _)) (Below.refl _ _) (Nat.le_trans HB3.out.size (by simp)) HLN.out ?_
                           intro v1 w5 HO1 HB1 hg hat
                           have HO5 := Aside.mk HO1
                           have HB5 := Aside.mk ((HB3.out.alloc HB3.out.size _).grown hg (Nat.le_trans HB3.out.size (by simp)) (fun j hj => (HO3.out.lt j hj).1))
                           clear HO1 HB1 hg hat)
              refine ⟨⟨k + 1, by omega, by go_num, ⟨by rw [HE.out]; exact HO5.out⟩, HB5⟩, by simp [intOf]; omega⟩
            · rw [if_neg hk1] at hst
              have HE := Aside.mk hst
              clear hst
              have g : (kd == 1) = false := by simp [hk1]
              have q := hb8.doz
              have HKY : Aside (opRp.K (wc.alloc (.cells #[.int .i64 kd, .int .i64 (withinV x 3), .int .i64 (withinV y 2), .int .i64 (withinV z 30), .slice none 0 0, .string idb, .int .i64 (withinV y 8), .slice (some ⟨nf, 0, none⟩) 1 1, .slice none 0 0, .string idb, .string ⟨#[107]⟩, .string ⟨#[120]⟩] 40)) (fun j => w.heap.size ≤ j ∧ some j ≠ (Value.slice Ao (opsK (L.take k)).length co).ownBlock) ⟨kd, ⟨withinV x 3, withinV y 2, withinV z 30⟩, [], ⟨idb, withinV y 8, [⟨⟨#[107]⟩, vlb⟩], []⟩, idb, ⟨⟨#[107]⟩, ⟨#[120]⟩⟩⟩ [.int .i64 kd, .int .i64 (withinV x 3), .int .i64 (withinV y 2), .int .i64 (withinV z 30), .slice none 0 0, .string idb, .int .i64 (withinV y 8), .slice (some ⟨nf, 0, none⟩) 1 1, .slice none 0 0, .string idb, .string ⟨#[107]⟩, .string ⟨#[120]⟩]) :=
                ⟨_, _, _, rfl, Sl.nil _ _ _, sl_fld1 (x := ⟨⟨#[107]⟩, vlb⟩) (HBF.out.alloc _) ⟨HNF.out.1, fun e => Nat.lt_irrefl _ (HNF.out.2 nf e.symm)⟩, Sl.nil _ _ _⟩
              clear hb8
              go_wp2_with (at_builtin
                           refine list_one (w0 := wc.alloc (.cells #[.int .i64 kd, .int .i64 (withinV x 3), .int .i64 (withinV y 2), .int .i64 (withinV z 30), .slice none 0 0, .string idb, .int .i64 (withinV y 8), .slice (some ⟨nf, 0, none⟩) 1 1, .slice none 0 0, .string idb, .string ⟨#[107]⟩, .string ⟨#[120]⟩] 40)) opRp w.heap.size rfl (.tmp 78) (.tmp 80) 28 40 zeroOp 176 rfl Tryz.underlying28 infoOp rfl (by decide) (by decide) (.slice Ao (opsK (L.take k)).length co) (opsK (L.take k)) ⟨kd, ⟨withinV x 3, withinV y 2, withinV z 30⟩, [], ⟨idb, withinV y 8, [⟨⟨#[107]⟩, vlb⟩], []⟩, idb, ⟨⟨#[107]⟩, ⟨#[120]⟩⟩⟩ [.int .i64 kd, .int .i64 (withinV x 3), .int .i64 (withinV y 2), .int .i64 (withinV z 30), .slice none 0 0, .string idb, .int .i64 (withinV y 8), .slice (some ⟨nf, 0, none⟩) 1 1, .slice none 0 0, .string idb, .string ⟨#[107]⟩, .string ⟨#[120]⟩] (fun j => w.heap.size ≤ j) wc.heap.size 1 rfl rfl (blk_new wc _ _) HKY.out (HO2.out.below ((Below.refl _ _).alloc (Nat.le_refl _) _)) (Below.refl _ _) (Nat.le_trans HB2.out.size (by simp)) HLN.out ?_
                           intro v1 w5 HO1 HB1 hg hat
                           have HO5 := Aside.mk HO1
                           have HB5 := Aside.mk ((HB2.out.alloc HB2.out.size _).grown hg (Nat.le_trans HB2.out.size (by simp)) (fun j hj => (HO2.out.lt j hj).1))
                           clear HO1 HB1 hg hat)
              refine ⟨⟨k + 1, by omega, by go_num, ⟨by rw [HE.out]; exact HO5.out⟩, HB5⟩, by simp [intOf]; omega⟩
    · obtain rfl : k = L.length := by omega
      have h := HO.out
      rw [List.take_length] at h
      have HE := Aside.mk h
      clear h
      go_wp2_with fail
      go_ret
      refine ⟨_, by rw [List.take_length]; rfl, HE.out.sl.mono fun j hj _ => hj.elim id fun h => (HE.out.lt j h).1, HB.out⟩
end Go.Proofs.WK
