/-
  From the rows' data to this session's readings: every argument type opened once; what a law leaves, shut once.
  The program's struct types among the arguments: each opened once.
  An operation (api.Op) among the arguments: opened once; a list of such.
-/
import Derived.ProofKit
import Derived.OpenShut
import Derived.Carry
import Derived.Test.YtljjiicjnoljbaaGreatDoorDat
import Derived.Test.YtljjiicjnoljbaaGreatDoorOpv
namespace Go.Proofs.WK
open Go.RowKit Go.WideShapes Go.ChangeShapes Rp

/-- A value of type t that can be read as data reads as a thing of kind d that is well formed. -/
def Opens {α : Type} (P : Program) (t : TypeId) (d : Rp α) (wf : α → Prop) : Prop :=
  P.cellsOf t = d.sz ∧ ∀ {H : Type} {enc : TypeId × Value → H} {w : World} {spare : Nat → Bool} {held : Bool} {fuel : Nat} {cs : List Value} {x : DataW H × List MemPlace},
    DataW.trod enc P w 0 spare held fuel t cs = some x → ∃ a, wf a ∧ d.K w (fun _ => True) a cs

def I64 (n : Int) : Prop := -9223372036854775808 ≤ n ∧ n ≤ 9223372036854775807
def SOk (s : ByteArray) : Prop := s.size ≤ 9223372036854775807
section
variable {P : Program} {α β : Type}
theorem opens_int {t : TypeId} (ht : P.underlying t = some (.int .i64)) (hc : P.cellsOf t = 1) : Opens P t int I64 :=
  ⟨hc, fun h => by
    obtain ⟨n, rfl, _, hw⟩ := DataW.trod_int ht h
    exact ⟨n, by simpa [I64, Lit.wf, IntKind.min, IntKind.max, IntKind.signed, IntKind.bits] using hw, rfl⟩⟩
theorem opens_bool {t : TypeId} (ht : P.underlying t = some .bool) (hc : P.cellsOf t = 1) : Opens P t bool (fun _ => True) :=
  ⟨hc, fun h => by
    obtain ⟨n, rfl, _⟩ := DataW.trod_bool ht h
    exact ⟨n, trivial, rfl⟩⟩
theorem opens_str {t : TypeId} (ht : P.underlying t = some .string) (hc : P.cellsOf t = 1) : Opens P t str SOk :=
  ⟨hc, fun h => by
    obtain ⟨n, rfl, _, hw⟩ := DataW.trod_string ht h
    exact ⟨n, by simpa [SOk, maxLen] using hw, rfl⟩⟩
theorem cells?_get {w : World} {base : Nat} {a : Addr} {n : Nat} {cs : List Value} (h : w.cells? base a n = some cs) : cs.length = n ∧ ∀ i u, cs[i]? = some u → w.cell? (a.add i) = some u := by
  obtain ⟨_, hl, hat⟩ := World.cells?_some h
  refine ⟨hl, fun i u hu => ?_⟩
  rw [hat i (by rw [← hl]; exact (List.getElem?_eq_some_iff.1 hu).1)]
  exact hu
theorem opens_slice {t e : TypeId} {d : Rp α} {wf : α → Prop} (ht : P.underlying t = some (.slice e)) (hc : P.cellsOf t = 1) (he : Opens P e d wf) (hs : 0 < d.sz) : Opens P t (slice d) (fun l => ∀ a ∈ l, wf a) :=
  ⟨hc, fun {H enc w spare held fuel cs x} h => by
    rcases DataW.trod_slice ht h with ⟨rfl, _⟩ | ⟨a, len, cap, elems, rest, n, _, rfl, _, _, hl, hm, hlen, hel, _, _⟩
    · exact ⟨[], by simp, _, rfl, Sl.nil _ _ _⟩
    · have each : ∀ i, i < len → ∃ p : α, wf p ∧ ∃ c, d.K w (fun _ => True) p c ∧ ∀ j u, c[j]? = some u → w.cell? (a.add (i * d.sz + j)) = some u := by
        intro i hi
        have h1 := hel i hi
        rw [List.getElem?_eq_getElem (by omega), Option.bind_eq_some_iff] at h1
        obtain ⟨c, hcs, hy⟩ := h1
        obtain ⟨p, hp, hK⟩ := he.2 hy
        obtain ⟨_, hat⟩ := cells?_get hcs
        exact ⟨p, hp, c, hK, fun j u hu => by rw [← add_add, ← he.1]; exact hat j u hu⟩
      obtain ⟨l, hll, hl2⟩ : ∃ l : List α, l.length = len ∧ ∀ i p, l[i]? = some p → wf p ∧ ∃ c, d.K w (fun _ => True) p c ∧ ∀ j u, c[j]? = some u → w.cell? (a.add (i * d.sz + j)) = some u := by
        have key : ∀ n, n ≤ len → ∃ l : List α, l.length = n ∧ ∀ i p, l[i]? = some p → wf p ∧ ∃ c, d.K w (fun _ => True) p c ∧ ∀ j u, c[j]? = some u → w.cell? (a.add (i * d.sz + j)) = some u := by
          intro n
          induction n with
          | zero => intro _; exact ⟨[], rfl, fun i p h => by simp at h⟩
          | succ n ih =>
            intro hn
            obtain ⟨l, h1, h2⟩ := ih (by omega)
            obtain ⟨p, hp⟩ := each n (by omega)
            refine ⟨l ++ [p], by simp [h1], fun i q hq => ?_⟩
            rcases Nat.lt_or_ge i l.length with hi | hi
            · rw [List.getElem?_append_left hi] at hq
              exact h2 i q hq
            · have hi2 := (List.getElem?_eq_some_iff.1 hq).1
              simp at hi2
              obtain rfl : i = n := by omega
              rw [List.getElem?_append_right hi, h1, Nat.sub_self] at hq
              obtain rfl : p = q := by simpa using hq
              exact hp
        exact key len (Nat.le_refl _)
      refine ⟨l, fun p hp => ?_, .slice (some a) len cap, rfl, some a, cap, by rw [hll], by omega, ?_, fun j p hp => ?_⟩
      · obtain ⟨i, hi⟩ := List.getElem?_of_mem hp
        exact (hl2 i p hi).1
      · unfold maxLen at hm; omega
      · obtain ⟨_, c, hK, hcell⟩ := hl2 j p hp
        refine ⟨a, rfl, trivial, ?_, c, hK, hcell⟩
        have h0 : 0 < c.length := by rw [d.len hK]; exact hs
        have := World.block_lt_of_cell? w _ (hcell 0 _ (List.getElem?_eq_getElem h0))
        rwa [add_block] at this⟩
/-- Fields in line, from cell o on. -/
def OpensF (P : Program) (fs : List Field) (d : Rp α) (wf : α → Prop) (o : Nat) : Prop :=
  ∀ {H : Type} {enc : TypeId × Value → H} {w : World} {spare : Nat → Bool} {held : Bool} {n : Nat} {cs : List Value},
    (∀ f ∈ fs, ∃ y, DataW.trod enc P w 0 spare held n f.type ((cs.drop f.offset).take (P.cellsOf f.type)) = some y) → ∃ a, wf a ∧ d.K w (fun _ => True) a ((cs.drop o).take d.sz)
theorem opensF_one {f : Field} {d : Rp α} {wf : α → Prop} {o : Nat} (h : Opens P f.type d wf) (ho : f.offset = o) : OpensF P [f] d wf o := fun hf => by
  obtain ⟨y, hy⟩ := hf f (List.mem_singleton.2 rfl)
  rw [ho, h.1] at hy
  exact h.2 hy
theorem opensF_cons {f : Field} {fs : List Field} {d : Rp α} {d' : Rp β} {wf : α → Prop} {wf' : β → Prop} {o : Nat} (h : Opens P f.type d wf) (ho : f.offset = o) (hs : OpensF P fs d' wf' (o + d.sz)) :
    OpensF P (f :: fs) (pair d d') (fun x => wf x.1 ∧ wf' x.2) o := fun hf => by
  obtain ⟨a, ha, hK⟩ := opensF_one h ho (fun g hg => hf g (by rw [List.mem_singleton.1 hg]; exact List.mem_cons_self ..))
  obtain ⟨b, hb, hK'⟩ := hs (fun g hg => hf g (List.mem_cons_of_mem _ hg))
  refine ⟨(a, b), ⟨ha, hb⟩, _, _, ?_, hK, hK'⟩
  show List.take (d.sz + d'.sz) _ = _
  rw [List.take_add, List.drop_drop]
theorem opens_struct {t : TypeId} {fs : Array Field} {d : Rp α} {wf : α → Prop} (ht : P.underlying t = some (.struct fs)) (hc : P.cellsOf t = d.sz) (h : OpensF P fs.toList d wf 0) : Opens P t d wf :=
  ⟨hc, fun {H enc w spare held fuel cs x} hx => by
    obtain ⟨ys, n, _, _, hcl, hyl, hf⟩ := DataW.trod_struct ht hx
    obtain ⟨a, ha, hK⟩ := h (cs := cs) (n := n) (w := w) (enc := enc) (spare := spare) (held := held) (fun f hfm => by
      obtain ⟨i, hi⟩ := List.getElem?_of_mem hfm
      have hi' : fs[i]? = some f := by simpa using hi
      have hil := (Array.getElem?_eq_some_iff.1 hi').1
      exact ⟨_, (hf i f hi').trans (List.getElem?_eq_getElem (by omega))⟩)
    rw [List.drop_zero, ← hc, ← hcl, List.take_length] at hK
    exact ⟨a, ha, hK⟩⟩
theorem opens_iso {t : TypeId} {d : Rp α} {wf : α → Prop} (h : Opens P t d wf) (f : β → α) (g : α → β) (hfg : ∀ a, f (g a) = a) : Opens P t (iso d f) (fun b => wf (f b)) :=
  ⟨h.1, fun hx => by
    obtain ⟨a, ha, hK⟩ := h.2 hx
    exact ⟨g a, by show wf (f (g a)); rw [hfg]; exact ha, by show d.K _ _ (f (g a)) _; rw [hfg]; exact hK⟩⟩
/-- A slice among the arguments. -/
theorem Opens.arg {t e : TypeId} {d : Rp α} {wf : List α → Prop} (h : Opens P t (slice d) wf) (ht : P.underlying t = some (.slice e)) {H : Type} {enc : TypeId × Value → H} {w : World} {spare : Nat → Bool} {held : Bool} {v : Value} {x : DataW H} {p : List MemPlace} {r : Go.Reach} {b0 : Nat}
    (hv : Value.okWide P w r b0 t v) (hx : DataW.Trod enc P w 0 spare held t v x p) : ∃ A c l, v = .slice A l.length c ∧ l.length ≤ c ∧ wf l ∧ d.Row w (fun _ => True) A l := by
  obtain ⟨a, len, cap, rfl⟩ := okWide_slice ht hv
  obtain ⟨fuel, hf⟩ := hx
  obtain ⟨l, hl, v', hv', A, c, rfl, hc, hr⟩ := h.2 hf
  have e : Value.slice a len cap = .slice A l.length c := by simpa [Value.cells] using hv'
  rw [e]
  exact ⟨A, c, l, rfl, hc, hl, hr⟩
/-- A struct among the arguments: its cells. -/
theorem Opens.agg {t : TypeId} {fs : Array Field} {d : Rp α} {wf : α → Prop} (h : Opens P t d wf) (ht : P.underlying t = some (.struct fs)) {H : Type} {enc : TypeId × Value → H} {w : World} {spare : Nat → Bool} {held : Bool} {v : Value} {x : DataW H} {p : List MemPlace} {r : Go.Reach} {b0 : Nat}
    (hv : Value.okWide P w r b0 t v) (hx : DataW.Trod enc P w 0 spare held t v x p) : ∃ a cs, v = .agg cs.toArray ∧ wf a ∧ d.K w (fun _ => True) a cs := by
  obtain ⟨cs, rfl, _⟩ := okWide_struct ht hv
  obtain ⟨fuel, hf⟩ := hx
  obtain ⟨a, ha, hK⟩ := h.2 hf
  exact ⟨a, cs.toList, by simp, ha, by simpa [Value.cells] using hK⟩
theorem trodAll_below {H : Type} {enc : TypeId × Value → H} {W W' : World} (hl : laidOutB P = true) (hb : Below W.heap.size W W') :
    ∀ {ts : List TypeId} {vs : List Value} {ds : List (DataW H)} {ps : List MemPlace}, ts.all (fun t => P.readableRec t && decide (t < P.types.size)) = true → (∀ p ∈ ps, p.block < W.heap.size) →
      DataW.TrodAll enc P W 0 (fun _ => true) true ts vs ds ps → DataW.TrodAll enc P W' 0 (fun b => decide (b < W.heap.size)) true ts vs ds ps
  | [], [], [], _, _, _, h => h
  | [], [], _ :: _, _, _, _, h => h.elim
  | [], _ :: _, _, _, _, _, h => h.elim
  | _ :: _, [], _, _, _, _, h => h.elim
  | _ :: _, _ :: _, [], _, _, _, h => h.elim
  | t :: ts, v :: vs, d :: ds, ps, ht, hp, h => by
    obtain ⟨p, q, h1, h2, rfl⟩ := h
    simp only [List.all_cons, Bool.and_eq_true, decide_eq_true_eq] at ht
    exact ⟨p, q, Below.trod hl ht.1.1 ht.1.2 h1 hb (fun x hx => hp x (List.mem_append_left _ hx)), trodAll_below hl hb ht.2 (fun x hx => hp x (List.mem_append_right _ hx)) h2, rfl⟩
end
/-! ### this program's types -/
section
theorem oInt : Opens Tryz.prog 3 int I64 := opens_int Tryz.underlying3 (by kernel_rfl)
theorem oBool : Opens Tryz.prog 4 bool (fun _ => True) := opens_bool Tryz.underlying4 (by kernel_rfl)
theorem oStr : Opens Tryz.prog 9 str SOk := opens_str Tryz.underlying9 (by kernel_rfl)
theorem oStrs : Opens Tryz.prog 34 (slice str) (fun l => ∀ a ∈ l, SOk a) := opens_slice Tryz.underlying34 (by kernel_rfl) oStr Nat.one_pos
theorem oInts : Opens Tryz.prog 79 (slice int) (fun l => ∀ a ∈ l, I64 a) := opens_slice Tryz.underlying79 (by kernel_rfl) oInt Nat.one_pos
theorem laidOut : laidOutB Tryz.prog = true := by kernel_rfl
theorem own_ : ownKnob Tryz.prog.godebug = none := by kernel_rfl
end
end Go.Proofs.WK
namespace Go.Proofs.WK
open Go.RowKit Go.WideShapes Go.ChangeShapes Rp
set_option maxRecDepth 100000
theorem I64.b {n : Int} (h : I64 n) : -9223372036854775808 ≤ n ∧ n ≤ 9223372036854775807 := h
def labR : Rp Lab := iso (pair int int) (fun x => (x.level, x.cats))
theorem labK {w : World} {ok : Nat → Prop} {cs : List Value} {x : Lab} : labR.K w ok x cs ↔ cs = [.int .i64 x.level, .int .i64 x.cats] :=
  ⟨by rintro ⟨_, _, rfl, rfl, rfl⟩; rfl, by rintro rfl; exact ⟨[_], _, rfl, rfl, rfl⟩⟩
theorem oLab : Opens Tryz.prog 189 labR (fun x => I64 x.level ∧ I64 x.cats) :=
  by have h := opens_struct Tryz.underlying189 (by kernel_rfl) (opensF_cons oInt rfl (opensF_one oInt rfl)); exact opens_iso h (fun x : Lab => (x.level, x.cats)) (fun x => ⟨x.1, x.2⟩) fun _ => rfl
theorem oWho : Opens Tryz.prog 31 whoR (fun x => I64 x.role ∧ I64 x.why ∧ I64 x.time) :=
  by have h := opens_struct Tryz.underlying31 (by kernel_rfl) (opensF_cons oInt rfl (opensF_cons oInt rfl (opensF_one oInt rfl))); exact opens_iso h (fun x : Who => (x.role, x.why, x.time)) (fun x => ⟨x.1, x.2.1, x.2.2⟩) fun _ => rfl
theorem oRul : Opens Tryz.prog 89 rulR (fun x => I64 x.role ∧ I64 x.why ∧ I64 x.frm ∧ I64 x.til ∧ I64 x.cats ∧ True) :=
  by have h := opens_struct Tryz.underlying89 (by kernel_rfl) (opensF_cons oInt rfl (opensF_cons oInt rfl (opensF_cons oInt rfl (opensF_cons oInt rfl (opensF_cons oInt rfl (opensF_one oBool rfl)))))); exact opens_iso h (fun x : Rul => (x.role, x.why, x.frm, x.til, x.cats, x.allow)) (fun x => ⟨x.1, x.2.1, x.2.2.1, x.2.2.2.1, x.2.2.2.2.1, x.2.2.2.2.2⟩) fun _ => rfl
theorem oIntss : Opens Tryz.prog 22 (slice (slice int)) (fun l => ∀ a ∈ l, ∀ n ∈ a, I64 n) := opens_slice Tryz.underlying22 (by kernel_rfl) oInts (by decide)
theorem oRuls : Opens Tryz.prog 32 (slice rulR) (fun l => ∀ a ∈ l, I64 a.role ∧ I64 a.why ∧ I64 a.frm ∧ I64 a.til ∧ I64 a.cats ∧ True) := opens_slice Tryz.underlying32 (by kernel_rfl) oRul (by decide)
theorem oFld : Opens Tryz.prog 38 fldR (fun x => SOk x.key ∧ SOk x.val) :=
  by have h := opens_struct Tryz.underlying38 (by kernel_rfl) (opensF_cons oStr rfl (opensF_one oStr rfl)); exact opens_iso h (fun x : Fld => (x.key, x.val)) (fun x => ⟨x.1, x.2⟩) fun _ => rfl
theorem oFlds : Opens Tryz.prog 33 (slice fldR) (fun l => ∀ a ∈ l, SOk a.key ∧ SOk a.val) := opens_slice Tryz.underlying33 (by kernel_rfl) oFld (by decide)
def RecOk (x : Rec) : Prop := SOk x.id ∧ I64 x.cats ∧ (∀ f ∈ x.fields, SOk f.key ∧ SOk f.val) ∧ ∀ s ∈ x.refs, SOk s
theorem oRec : Opens Tryz.prog 36 recR RecOk :=
  by have h := opens_struct Tryz.underlying36 (by kernel_rfl) (opensF_cons oStr rfl (opensF_cons oInt rfl (opensF_cons oFlds rfl (opensF_one oStrs rfl)))); exact opens_iso h (fun x : Rec => (x.id, x.cats, x.fields, x.refs)) (fun x => ⟨x.1, x.2.1, x.2.2.1, x.2.2.2⟩) fun _ => rfl
theorem oVer : Opens Tryz.prog 63 verR (fun x => RecOk x.r ∧ True) :=
  by have h := opens_struct Tryz.underlying63 (by kernel_rfl) (opensF_cons oRec rfl (opensF_one oBool rfl)); exact opens_iso h (fun x : Ver => (x.r, x.gone)) (fun x => ⟨x.1, x.2⟩) fun _ => rfl
theorem oVers : Opens Tryz.prog 42 (slice verR) (fun l => ∀ a ∈ l, RecOk a.r ∧ True) := opens_slice Tryz.underlying42 (by kernel_rfl) oVer (by decide)
end Go.Proofs.WK
namespace Go.Proofs.WK
open Go.RowKit Go.WideShapes Go.ChangeShapes Rp
set_option maxRecDepth 100000
def opP : Rp OpV := iso (pair int (pair whoR (pair (slice rulR) (pair recR (pair str fldR))))) (fun x => (x.kind, x.who, x.rules, x.r, x.id, x.f))
def OpOk (x : OpV) : Prop := I64 x.kind ∧ (I64 x.who.role ∧ I64 x.who.why ∧ I64 x.who.time) ∧ (∀ a ∈ x.rules, I64 a.role ∧ I64 a.why ∧ I64 a.frm ∧ I64 a.til ∧ I64 a.cats ∧ True) ∧ RecOk x.r ∧ SOk x.id ∧ SOk x.f.key ∧ SOk x.f.val
theorem opK_of {w : World} {ok : Nat → Prop} {cs : List Value} {x : OpV} (h : opP.K w ok x cs) : opRp.K w ok x cs := by
  obtain ⟨_, _, rfl, rfl, _, _, rfl, hw, _, _, rfl, ⟨v1, rfl, h1⟩, _, _, rfl, hr, _, _, rfl, rfl, hf⟩ := h
  obtain rfl := whoK.1 hw
  obtain ⟨v2, v3, rfl, h2, h3⟩ := recK.1 hr
  obtain rfl := fldK.1 hf
  exact ⟨v1, v2, v3, rfl, h1, h2, h3⟩
theorem oOpP : Opens Tryz.prog 40 opP OpOk := by
  have h := opens_struct Tryz.underlying40 (by kernel_rfl) (opensF_cons oInt rfl (opensF_cons oWho rfl (opensF_cons oRuls rfl (opensF_cons oRec rfl (opensF_cons oStr rfl (opensF_one oFld rfl))))))
  exact opens_iso h (fun x : OpV => (x.kind, x.who, x.rules, x.r, x.id, x.f)) (fun x => ⟨x.1, x.2.1, x.2.2.1, x.2.2.2.1, x.2.2.2.2.1, x.2.2.2.2.2⟩) fun _ => rfl
theorem oOp : Opens Tryz.prog 40 opRp OpOk := ⟨oOpP.1, fun h => by
  obtain ⟨a, h1, h2⟩ := oOpP.2 h
  exact ⟨a, h1, opK_of h2⟩⟩
theorem oOps : Opens Tryz.prog 28 (slice opRp) (fun l => ∀ a ∈ l, OpOk a) := opens_slice Tryz.underlying28 (by kernel_rfl) oOp (by decide)
end Go.Proofs.WK
