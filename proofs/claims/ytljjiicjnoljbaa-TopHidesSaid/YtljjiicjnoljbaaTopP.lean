/-
  What TopHides and TopTorn say to their servers, in plain Lean. No walk.
-/
import Derived.Test.YtljjiicjnoljbaaSrvN
import Derived.Test.YtljjiicjnoljbaaDat
namespace Go.Proofs.WK
def abcS : List ByteArray := [⟨#[97]⟩, ⟨#[98]⟩, ⟨#[99]⟩]
def xyS : List ByteArray := [⟨#[120]⟩, ⟨#[121]⟩]
def kindsL : List Int := [2, 2, 2, 3, 4, 5, 6, 1]
def rules0 : List Rul := [⟨0, -1, 0, 40, 1, true⟩, ⟨1, -1, 0, 40, 3, true⟩, ⟨2, -1, 0, 40, 255, true⟩]
def rules4 : List Rul := [⟨0, -1, 0, 40, 1, true⟩, ⟨1, -1, 0, 20, 3, true⟩, ⟨2, 0, 0, 40, 7, true⟩, ⟨-1, -1, 10, 12, 2, false⟩]
def up3 : List Int := [0, 1, 2]
def opK (x : Int) : Int := kindsL[(withinV (x.tdiv 3) 8).toNat]?.getD 0
def opId (z : Int) : ByteArray := abcS[(withinV z 3).toNat]?.getD ⟨#[]⟩
def opVl (y : Int) : ByteArray := xyS[(withinV y 2).toNat]?.getD ⟨#[]⟩
def opR (x : Int) : List Rul := if opK x = 1 then rules4 else []
def opOf (x y z : Int) : OpV := ⟨opK x, ⟨withinV x 3, withinV y 2, withinV z 30⟩, opR x, ⟨opId z, withinV y 8, [⟨⟨#[107]⟩, opVl y⟩], []⟩, opId z, ⟨⟨#[107]⟩, ⟨#[120]⟩⟩⟩
def opsOne : List Int → List OpV
  | x :: y :: z :: _ => [opOf x y z]
  | _ => []
def opsK (l : List (List Int)) : List OpV := l.flatMap opsOne
/-- wytop.ops. -/
def opsV (l : List (List Int)) : List OpV := opsK (l.take 25)
theorem opsOne_len (c : List Int) : (opsOne c).length ≤ 1 := by
  unfold opsOne
  split <;> simp
theorem opsK_len (l : List (List Int)) : (opsK l).length ≤ l.length := by
  unfold opsK
  induction l with
  | nil => simp
  | cons c l ih => rw [List.flatMap_cons, List.length_append, List.length_cons]; have := opsOne_len c; omega
theorem opsV_len (l : List (List Int)) : (opsV l).length ≤ 25 := Nat.le_trans (opsK_len _) (by simp; omega)
theorem opsK_step {l : List (List Int)} {k : Nat} (hk : k < l.length) : opsK (l.take (k + 1)) = opsK (l.take k) ++ opsOne l[k] := by
  unfold opsK
  rw [List.take_succ_eq_append_getElem hk, List.flatMap_append]
  simp
theorem opK_ways (x : Int) : opK x = 1 ∨ opK x = 2 ∨ opK x = 3 ∨ opK x = 4 ∨ opK x = 5 ∨ opK x = 6 := by
  have h := withinV_lt (x := x.tdiv 3) (n := 8) (by omega)
  unfold opK
  generalize withinV (x.tdiv 3) 8 = i at *
  have : i = 0 ∨ i = 1 ∨ i = 2 ∨ i = 3 ∨ i = 4 ∨ i = 5 ∨ i = 6 ∨ i = 7 := by omega
  rcases this with rfl | rfl | rfl | rfl | rfl | rfl | rfl | rfl <;> decide
/-- What all that is said has. -/
structure OpOk (o : OpV) : Prop where
  kind : o.kind = 1 ∨ o.kind = 2 ∨ o.kind = 3 ∨ o.kind = 4 ∨ o.kind = 5 ∨ o.kind = 6
  who : whoOk o.who = true
  role : 0 ≤ o.who.role ∧ o.who.role < 3
  rules : o.kind = 1 → rulesErr o.rules = 0
  cats : 0 ≤ o.r.cats ∧ o.r.cats < 8
theorem opOf_ok (x y z : Int) : OpOk (opOf x y z) := by
  have h1 := withinV_lt (x := x) (n := 3) (by omega)
  have h2 := withinV_lt (x := y) (n := 2) (by omega)
  have h3 := withinV_lt (x := z) (n := 30) (by omega)
  have h4 := withinV_lt (x := y) (n := 8) (by omega)
  refine ⟨opK_ways x, ?_, h1, fun h => ?_, h4⟩
  · unfold opOf whoOk
    simp
    omega
  · have e : (opOf x y z).rules = rules4 := if_pos h
    rw [e]
    decide
theorem ops_ok {l : List (List Int)} : ∀ o ∈ opsV l, OpOk o := by
  intro o ho
  unfold opsV opsK at ho
  obtain ⟨c, _, hc⟩ := List.mem_flatMap.1 ho
  unfold opsOne at hc
  split at hc
  · rw [List.mem_singleton.1 hc]; exact opOf_ok _ _ _
  · cases hc
theorem roles3 : roleErr up3 = 0 := by decide
theorem sees3 {rs : List Rul} {q : Who} (hr : rulesErr rs = 0) (hq : whoOk q = true) (h0 : 0 ≤ q.role ∧ q.role < 3) : seesErr up3 rs q = 0 := by
  unfold seesErr allErr
  rw [roles3, hr, hq]
  have : (up3.length : Int) = 3 := rfl
  simp
  omega
/-- Two servers that are one to who may see no kinds but s, ruled well. -/
structure Two (s : Int) (a b : Srv) : Prop where
  lo : Lo s a b
  up : a.up = up3
  rules : rulesErr a.rules = 0
theorem Two.upb {s : Int} {a b : Srv} (h : Two s a b) : b.up = up3 := h.lo.up.symm.trans h.up
theorem do_up (a : Srv) (o : OpV) (hk : o.kind = 1 ∨ o.kind = 2 ∨ o.kind = 3 ∨ o.kind = 4 ∨ o.kind = 5 ∨ o.kind = 6) : (doS a o).1.up = a.up := by
  rcases hk with hk | hk | hk | hk
  · rw [doS_rules hk]; show (if _ then _ else _ : Srv).up = _; split <;> rfl
  · rw [doS_put hk]; show (if _ then _ else _ : Srv).up = _; split <;> rfl
  · rw [doS_cut hk]; show (if _ then _ else _ : Srv).up = _; split <;> rfl
  · rw [doS_look hk]
theorem do_rules {a : Srv} {o : OpV} (ho : OpOk o) (ha : rulesErr a.rules = 0) : rulesErr (doS a o).1.rules = 0 := by
  rcases ho.kind with hk | hk | hk | hk
  · rw [doS_rules hk]; show rulesErr (if _ then _ else _ : Srv).rules = _; rw [if_pos (ho.rules hk)]; exact ho.rules hk
  · rw [doS_put hk]; show rulesErr (if _ then _ else _ : Srv).rules = _; split <;> exact ha
  · rw [doS_cut hk]; show rulesErr (if _ then _ else _ : Srv).rules = _; split <;> exact ha
  · rw [doS_look hk]; exact ha
def hides (s : Int) (o : OpV) : Bool := (o.kind == 2 || o.kind == 3) && !part o.r.cats s
theorem hides_k {s : Int} {o : OpV} (h : hides s o = true) : (o.kind = 2 ∨ o.kind = 3) ∧ part o.r.cats s = false := by
  unfold hides at h
  simpa using h
theorem Two.hid {s : Int} {a b : Srv} (h : Two s a b) {o : OpV} (ho : hides s o = true) (hk : OpOk o) : Two s (doS a o).1 b :=
  ⟨lo_hidden h.lo (hides_k ho).1 (hides_k ho).2, (do_up a o hk.kind).trans h.up, do_rules hk h.rules⟩
theorem Two.hid2 {s : Int} {a b : Srv} (h : Two s a b) {o : OpV} (ho : hides s o = true) (_hk : OpOk o) : Two s a (doS b o).1 :=
  ⟨(lo_hidden h.lo.symm (hides_k ho).1 (hides_k ho).2).symm, h.up, h.rules⟩
theorem not_hides {s : Int} {o : OpV} (h : hides s o = false) (hk : o.kind = 2 ∨ o.kind = 3) : part o.r.cats s = true := by
  unfold hides at h
  rcases hk with hk | hk <;> simpa [hk] using h
theorem Two.both {s : Int} {a b : Srv} (h : Two s a b) {o : OpV} (ho : hides s o = false) (hk : OpOk o) : Two s (doS a o).1 (doS b o).1 :=
  ⟨(lo_do h.lo hk.kind (not_hides ho)).1, (do_up a o hk.kind).trans h.up, do_rules hk h.rules⟩
theorem Two.told {s : Int} {a b : Srv} (h : Two s a b) {o : OpV} (ho : hides s o = false) (hk : OpOk o) (hs : o.kind = 2 ∨ o.kind = 3 ∨ part (seesV a.up a.rules o.who) s = true) : (doS a o).2 = (doS b o).2 :=
  (lo_do h.lo hk.kind (not_hides ho)).2 hs
def srv0 : Srv := ⟨up3, rules0, [], []⟩
theorem two0 (s : Int) : Two s srv0 srv0 := ⟨⟨rfl, rfl, rfl, by decide, by decide, rfl⟩, rfl, by decide⟩
end Go.Proofs.WK
