/-
  (*Server).Do at the kinds 1 to 6: one contract.
-/
import Derived.Test.YtljjiicjnoljbaaSrvDoL
namespace Go.Proofs.WK
open Go.RowKit Rp
/-- What Do does, and tells: no notes. -/
def DoesTold (w : World) (g : Nat) (F : Nat → Prop) (s : Srv) (o : OpV) (e : Ending) (w' : World) : Prop :=
  ∃ v1 v2, e = .returned (.agg #[.int .i64 (doS s o).2.code, v1, v2, .slice none 0 0]) ∧ verR.Sl w' (fun k => w.heap.size ≤ k) v1 (doS s o).2.vers ∧ str.Sl w' (fun k => w.heap.size ≤ k) v2 (doS s o).2.ids ∧
    SrvIs w' g (fun k => F k ∨ w.heap.size ≤ k) (doS s o).1 ∧ w.grownBy w' (some g)
theorem DoesTold.err {w w' : World} {g : Nat} {F : Nat → Prop} {s : Srv} {o : OpV} {x : Int} (h : (doS s o).2 = .err x) (hs : SrvIs w' g (fun k => F k ∨ w.heap.size ≤ k) (doS s o).1) (hg : w.grownBy w' (some g)) :
    DoesTold w g F s o (.returned (.agg #[.int .i64 x, .slice none 0 0, .slice none 0 0, .slice none 0 0])) w' := by
  refine ⟨.slice none 0 0, .slice none 0 0, ?_, ?_, ?_, hs, hg⟩
  · rw [h]; rfl
  · rw [h]; exact Sl.nil _ _ _
  · rw [h]; exact Sl.nil _ _ _
theorem DoesTold.look {w w' : World} {g : Nat} {F : Nat → Prop} {s : Srv} {o : OpV} (hk : o.kind = 4 ∨ o.kind = 5 ∨ o.kind = 6) (h : SrvIs w g F s) (hb : Below w.heap.size w w') {t : Told} {v1 v2 : Value} (ht : lookT s o = t)
    (h1 : verR.Sl w' (fun k => w.heap.size ≤ k) v1 t.vers) (h2 : str.Sl w' (fun k => w.heap.size ≤ k) v2 t.ids) :
    DoesTold w g F s o (.returned (.agg #[.int .i64 t.code, v1, v2, .slice none 0 0])) w' := by
  have e := doS_look (s := s) hk
  rw [ht] at e
  refine ⟨v1, v2, by rw [e], by rw [e]; exact h1, by rw [e]; exact h2, ?_, below_grown hb _⟩
  rw [e]
  exact (h.below hb).more fun k hk _ => .inl hk
theorem doAll (g : Nat) (F : Nat → Prop) (s : Srv) (o : OpV) (hk : o.kind = 1 ∨ o.kind = 2 ∨ o.kind = 3 ∨ o.kind = 4 ∨ o.kind = 5 ∨ o.kind = 6) (B1 : Option Addr) (e1 : Nat) (B2 : Option Addr) (e2 : Nat) (B3 : Option Addr) (e3 : Nat) (ok1 ok2 ok3 : Nat → Prop) (w : World)
    (h : SrvIs w g F s) (hF : ∀ k, F k → k ≠ g) (hr : rulR.Row w ok1 B1 o.rules) (hf : fldR.Row w ok2 B2 o.r.fields) (hf2 : o.r.fields.length ≤ e2) (hg : str.Row w ok3 B3 o.r.refs) (hg2 : o.r.refs.length ≤ e3) :
    Calls Try.prog 33 #[.pointer (some ⟨g, 0, none⟩), opVal o B1 e1 B2 e2 B3 e3] w (DoesTold w g F s o) := by
  rcases hk with hk | hk | hk | hk
  · by_cases h0 : rulesErr o.rules = 0
    · refine (doRules_ok g F s o hk B1 e1 B2 e2 B3 e3 ok1 w h hr h0 hF).mono ?_
      rintro e w' ⟨rfl, hs, hg⟩
      exact .err (by rw [doS_rules hk, h0]) hs hg
    · refine (doRules_bad g F s o hk B1 e1 B2 e2 B3 e3 ok1 w h hr h0).mono ?_
      rintro e w' ⟨rfl, hs, hg⟩
      exact .err (by rw [doS_rules hk]) hs hg
  · refine (doPut g F s o hk B1 e1 B2 e2 B3 e3 ok2 ok3 w h hF hf hf2 hg hg2).mono ?_
    rintro e w' ⟨rfl, hs, hg⟩
    exact .err (by rw [doS_put hk]) hs hg
  · refine (doCut g F s o hk B1 e1 B2 e2 B3 e3 w h hF).mono ?_
    rintro e w' ⟨rfl, hs, hg⟩
    exact .err (by rw [doS_cut hk]) hs hg
  · by_cases h0 : mineE s o.who = 0
    · rcases hk with hk | hk | hk
      · refine (doGet_ok g F s o hk B1 e1 B2 e2 B3 e3 w h h0).mono ?_
        rintro e w' ⟨v, rfl, hs, hb⟩
        exact .look (.inl hk) h hb (t := ⟨getErr (mineV s o.who) o.id, oneV (mineV s o.who) o.id, [], []⟩) (by rw [lookT, if_neg (by simpa using h0), if_pos hk]) hs (Sl.nil _ _ _)
      · refine (doFind_ok g F s o hk B1 e1 B2 e2 B3 e3 w h h0).mono ?_
        rintro e w' ⟨v, rfl, hs, hb⟩
        exact .look (.inr (.inl hk)) h hb (t := ⟨byErr (mineV s o.who) o.f, [], byV (mineV s o.who) o.f, []⟩) (by rw [lookT, if_neg (by simpa using h0), if_neg (by omega), if_neg (by omega)]) (Sl.nil _ _ _) hs
      · refine (doHist_ok g F s o hk B1 e1 B2 e2 B3 e3 w h h0).mono ?_
        rintro e w' ⟨v, rfl, hs, hb⟩
        exact .look (.inr (.inr hk)) h hb (t := ⟨histErr (mineV s o.who) o.id, histV (mineV s o.who) o.id, [], []⟩) (by rw [lookT, if_neg (by simpa using h0), if_neg (by omega), if_pos hk]) hs (Sl.nil _ _ _)
    · have ht : lookT s o = .err (mineE s o.who) := by rw [lookT, if_pos h0]
      rcases hk with hk | hk | hk
      · refine (doGet_no g F s o hk B1 e1 B2 e2 B3 e3 w h h0).mono ?_
        rintro e w' ⟨rfl, hb⟩
        exact .look (.inl hk) h hb ht (Sl.nil _ _ _) (Sl.nil _ _ _)
      · refine (doFind_no g F s o hk B1 e1 B2 e2 B3 e3 w h h0).mono ?_
        rintro e w' ⟨rfl, hb⟩
        exact .look (.inr (.inl hk)) h hb ht (Sl.nil _ _ _) (Sl.nil _ _ _)
      · refine (doHist_no g F s o hk B1 e1 B2 e2 B3 e3 w h h0).mono ?_
        rintro e w' ⟨rfl, hb⟩
        exact .look (.inr (.inr hk)) h hb ht (Sl.nil _ _ _) (Sl.nil _ _ _)
end Go.Proofs.WK
