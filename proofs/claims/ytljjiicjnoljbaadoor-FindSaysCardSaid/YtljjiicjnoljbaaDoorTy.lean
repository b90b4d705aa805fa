/-
  The program's plain data as Lean has them, and what their cells say.
-/
import Derived.Test.YtljjiicjnoljbaaDoorWk
import Derived.Test.YtljjiicjnoljbaaDoorProg
namespace Go.Proofs.WK

structure Lab where
  level : Int
  cats : Int
deriving DecidableEq
structure Who where
  role : Int
  why : Int
  time : Int
deriving DecidableEq
structure Rul where
  role : Int
  why : Int
  frm : Int
  til : Int
  cats : Int
  allow : Bool
deriving DecidableEq
structure Fld where
  key : ByteArray
  val : ByteArray
deriving DecidableEq
structure Rec where
  id : ByteArray
  cats : Int
  fields : List Fld
  refs : List ByteArray
deriving DecidableEq
structure Ver where
  r : Rec
  gone : Bool
deriving DecidableEq
structure Nte where
  who : Who
  id : ByteArray
deriving DecidableEq

namespace Rp
variable {w : World} {ok : Nat → Prop} {cs : List Value}
def whoR : Rp Who := iso (pair int (pair int int)) (fun x => (x.role, x.why, x.time))
def rulR : Rp Rul := iso (pair int (pair int (pair int (pair int (pair int bool))))) (fun x => (x.role, x.why, x.frm, x.til, x.cats, x.allow))
def fldR : Rp Fld := iso (pair str str) (fun x => (x.key, x.val))
def recR : Rp Rec := iso (pair str (pair int (pair (slice fldR) (slice str)))) (fun x => (x.id, x.cats, x.fields, x.refs))
def verR : Rp Ver := iso (pair recR bool) (fun x => (x.r, x.gone))
def nteR : Rp Nte := iso (pair whoR str) (fun x => (x.who, x.id))
def whoC (x : Who) : List Value := [.int .i64 x.role, .int .i64 x.why, .int .i64 x.time]
def rulC (x : Rul) : List Value := [.int .i64 x.role, .int .i64 x.why, .int .i64 x.frm, .int .i64 x.til, .int .i64 x.cats, .bool x.allow]
def fldC (x : Fld) : List Value := [.string x.key, .string x.val]
theorem whoK {x : Who} : whoR.K w ok x cs ↔ cs = whoC x := by
  constructor
  · rintro ⟨_, _, rfl, rfl, _, _, rfl, rfl, rfl⟩; rfl
  · rintro rfl; exact ⟨[_], _, rfl, rfl, [_], _, rfl, rfl, rfl⟩
theorem rulK {x : Rul} : rulR.K w ok x cs ↔ cs = rulC x := by
  constructor
  · rintro ⟨_, _, rfl, rfl, _, _, rfl, rfl, _, _, rfl, rfl, _, _, rfl, rfl, _, _, rfl, rfl, rfl⟩; rfl
  · rintro rfl; exact ⟨[_], _, rfl, rfl, [_], _, rfl, rfl, [_], _, rfl, rfl, [_], _, rfl, rfl, [_], _, rfl, rfl, rfl⟩
theorem fldK {x : Fld} : fldR.K w ok x cs ↔ cs = fldC x := by
  constructor
  · rintro ⟨_, _, rfl, rfl, rfl⟩; rfl
  · rintro rfl; exact ⟨[_], _, rfl, rfl, rfl⟩
theorem recK {x : Rec} : recR.K w ok x cs ↔ ∃ v1 v2, cs = [.string x.id, .int .i64 x.cats, v1, v2] ∧ fldR.Sl w ok v1 x.fields ∧ str.Sl w ok v2 x.refs := by
  constructor
  · rintro ⟨_, _, rfl, rfl, _, _, rfl, rfl, _, _, rfl, ⟨v1, rfl, h1⟩, ⟨v2, rfl, h2⟩⟩; exact ⟨v1, v2, rfl, h1, h2⟩
  · rintro ⟨v1, v2, rfl, h1, h2⟩; exact ⟨[_], _, rfl, rfl, [_], _, rfl, rfl, [_], _, rfl, ⟨v1, rfl, h1⟩, ⟨v2, rfl, h2⟩⟩
theorem verK {x : Ver} : verR.K w ok x cs ↔ ∃ v1 v2, cs = [.string x.r.id, .int .i64 x.r.cats, v1, v2, .bool x.gone] ∧ fldR.Sl w ok v1 x.r.fields ∧ str.Sl w ok v2 x.r.refs := by
  constructor
  · rintro ⟨c0, _, rfl, h, rfl⟩
    obtain ⟨v1, v2, rfl, h1, h2⟩ := recK.1 h
    exact ⟨v1, v2, rfl, h1, h2⟩
  · rintro ⟨v1, v2, rfl, h1, h2⟩; exact ⟨[_, _, _, _], [_], rfl, recK.2 ⟨v1, v2, rfl, h1, h2⟩, rfl⟩
theorem nteK {x : Nte} : nteR.K w ok x cs ↔ cs = [.int .i64 x.who.role, .int .i64 x.who.why, .int .i64 x.who.time, .string x.id] := by
  constructor
  · rintro ⟨c0, _, rfl, h, rfl⟩
    obtain rfl := whoK.1 h
    rfl
  · rintro rfl; exact ⟨whoC x.who, [_], rfl, whoK.2 rfl, rfl⟩
/-- An element of a store, as the walk spells its cells. -/
theorem ver_at {A : Option Addr} {xs : List Ver} (h : verR.Row w ok A xs) {k : Nat} (hk : k < xs.length) : ∃ ad A1 c1 A2 c2, A = some ad ∧ ad.block < w.heap.size ∧
    w.cell? (ad.add (k * 5)) = some (.string xs[k].r.id) ∧ w.cell? ⟨(ad.add (k * 5)).block, (ad.add (k * 5)).off + 1, none⟩ = some (.int .i64 xs[k].r.cats) ∧
    w.cell? ⟨(ad.add (k * 5)).block, (ad.add (k * 5)).off + 2, none⟩ = some (.slice A1 xs[k].r.fields.length c1) ∧ w.cell? ⟨(ad.add (k * 5)).block, (ad.add (k * 5)).off + 3, none⟩ = some (.slice A2 xs[k].r.refs.length c2) ∧
    w.cell? ⟨(ad.add (k * 5)).block, (ad.add (k * 5)).off + 4, none⟩ = some (.bool xs[k].gone) ∧ xs[k].r.fields.length ≤ c1 ∧ xs[k].r.refs.length ≤ c2 ∧ fldR.Row w ok A1 xs[k].r.fields ∧ str.Row w ok A2 xs[k].r.refs := by
  obtain ⟨ad, c, e, hb, _, hK, hc0⟩ := h.at_ hk
  have hc : ∀ i u, c[i]? = some u → w.cell? (ad.add (k * 5 + i)) = some u := hc0
  obtain ⟨_, _, rfl, ⟨A1, c1, rfl, l1, r1⟩, ⟨A2, c2, rfl, l2, r2⟩⟩ := verK.1 hK
  exact ⟨ad, A1, c1, A2, c2, e, hb, hc 0 _ rfl, by rw [← add_field _ _ 1 (by omega)]; exact hc 1 _ rfl, by rw [← add_field _ _ 2 (by omega)]; exact hc 2 _ rfl, by rw [← add_field _ _ 3 (by omega)]; exact hc 3 _ rfl, by rw [← add_field _ _ 4 (by omega)]; exact hc 4 _ rfl, l1, l2, r1, r2⟩
theorem rul_at {A : Option Addr} {xs : List Rul} (h : rulR.Row w ok A xs) {k : Nat} (hk : k < xs.length) : ∃ ad, A = some ad ∧ ad.block < w.heap.size ∧
    w.cell? (ad.add (k * 6)) = some (.int .i64 xs[k].role) ∧ w.cell? ⟨(ad.add (k * 6)).block, (ad.add (k * 6)).off + 1, none⟩ = some (.int .i64 xs[k].why) ∧
    w.cell? ⟨(ad.add (k * 6)).block, (ad.add (k * 6)).off + 2, none⟩ = some (.int .i64 xs[k].frm) ∧ w.cell? ⟨(ad.add (k * 6)).block, (ad.add (k * 6)).off + 3, none⟩ = some (.int .i64 xs[k].til) ∧
    w.cell? ⟨(ad.add (k * 6)).block, (ad.add (k * 6)).off + 4, none⟩ = some (.int .i64 xs[k].cats) ∧ w.cell? ⟨(ad.add (k * 6)).block, (ad.add (k * 6)).off + 5, none⟩ = some (.bool xs[k].allow) := by
  obtain ⟨ad, c, e, hb, _, hK, hc0⟩ := h.at_ hk
  have hc : ∀ i u, c[i]? = some u → w.cell? (ad.add (k * 6 + i)) = some u := hc0
  obtain rfl := rulK.1 hK
  exact ⟨ad, e, hb, hc 0 _ rfl, by rw [← add_field _ _ 1 (by omega)]; exact hc 1 _ rfl, by rw [← add_field _ _ 2 (by omega)]; exact hc 2 _ rfl, by rw [← add_field _ _ 3 (by omega)]; exact hc 3 _ rfl, by rw [← add_field _ _ 4 (by omega)]; exact hc 4 _ rfl, by rw [← add_field _ _ 5 (by omega)]; exact hc 5 _ rfl⟩
theorem fld_at {A : Option Addr} {xs : List Fld} (h : fldR.Row w ok A xs) {k : Nat} (hk : k < xs.length) : ∃ ad, A = some ad ∧ ad.block < w.heap.size ∧
    w.cell? (ad.add (k * 2)) = some (.string xs[k].key) ∧ w.cell? ⟨(ad.add (k * 2)).block, (ad.add (k * 2)).off + 1, none⟩ = some (.string xs[k].val) := by
  obtain ⟨ad, c, e, hb, _, hK, hc0⟩ := h.at_ hk
  have hc : ∀ i u, c[i]? = some u → w.cell? (ad.add (k * 2 + i)) = some u := hc0
  obtain rfl := fldK.1 hK
  exact ⟨ad, e, hb, hc 0 _ rfl, by rw [← add_field _ _ 1 (by omega)]; exact hc 1 _ rfl⟩
end Rp
end Go.Proofs.WK
