/-
  An operation as plain data, and as cells. No walk.
-/
import Derived.Test.YtljjiicjnoljbaaGreatDoorDat
namespace Go.Proofs.WK
open Go.RowKit Rp
structure OpV where
  kind : Int
  who : Who
  rules : List Rul
  r : Rec
  id : ByteArray
  f : Fld
def opVal (o : OpV) (B1 : Option Addr) (e1 : Nat) (B2 : Option Addr) (e2 : Nat) (B3 : Option Addr) (e3 : Nat) : Value :=
  .agg #[.int .i64 o.kind, .int .i64 o.who.role, .int .i64 o.who.why, .int .i64 o.who.time, .slice B1 o.rules.length e1, .string o.r.id, .int .i64 o.r.cats, .slice B2 o.r.fields.length e2, .slice B3 o.r.refs.length e3, .string o.id, .string o.f.key, .string o.f.val]
def opC (o : OpV) (B1 : Option Addr) (e1 : Nat) (B2 : Option Addr) (e2 : Nat) (B3 : Option Addr) (e3 : Nat) : List Value :=
  [.int .i64 o.kind, .int .i64 o.who.role, .int .i64 o.who.why, .int .i64 o.who.time, .slice B1 o.rules.length e1, .string o.r.id, .int .i64 o.r.cats, .slice B2 o.r.fields.length e2, .slice B3 o.r.refs.length e3, .string o.id, .string o.f.key, .string o.f.val]
namespace Rp
def opRp : Rp OpV where
  sz := 12
  K := fun w ok o cs => ∃ v1 v2 v3, cs = [.int .i64 o.kind, .int .i64 o.who.role, .int .i64 o.who.why, .int .i64 o.who.time, v1, .string o.r.id, .int .i64 o.r.cats, v2, v3, .string o.id, .string o.f.key, .string o.f.val] ∧
    rulR.Sl w ok v1 o.rules ∧ fldR.Sl w ok v2 o.r.fields ∧ str.Sl w ok v3 o.r.refs
  len := by rintro _ _ _ _ ⟨v1, v2, v3, rfl, _⟩; rfl
  one := by
    rintro _ _ _ _ ⟨v1, v2, v3, rfl, h1, h2, h3⟩ u hu
    simp only [List.mem_cons, List.not_mem_nil, or_false] at hu
    rcases hu with rfl | rfl | rfl | rfl | rfl | rfl | rfl | rfl | rfl | rfl | rfl | rfl <;> first | rfl | exact h1.one | exact h2.one | exact h3.one
  mono := by rintro _ _ _ _ _ hk ⟨v1, v2, v3, rfl, h1, h2, h3⟩; exact ⟨v1, v2, v3, rfl, h1.mono hk, h2.mono hk, h3.mono hk⟩
  move := by rintro _ _ _ _ _ hk ⟨v1, v2, v3, rfl, h1, h2, h3⟩; exact ⟨v1, v2, v3, rfl, h1.move hk, h2.move hk, h3.move hk⟩
end Rp
end Go.Proofs.WK
