/-
  ServerPlays: two servers and what both are asked, step by step.
-/
import Derived.Test.YtljjiicjnoljbaaGreatDoorSrvF
import Derived.Test.YtljjiicjnoljbaaGreatDoorSameTd
namespace Go.Proofs.WK
open Go.RowKit Rp
/-- What stands at a place of a list of what is asked. -/
theorem op_at5 {w : World} {ok : Nat → Prop} {A : Option Addr} {xs : List OpV} (h : opRp.Row w ok A xs) {k : Nat} (hk : k < xs.length) : ∃ ad B1 e1 B2 e2 B3 e3, A = some ad ∧ ad.block < w.heap.size ∧ ok ad.block ∧
    (w.cell? (ad.add (k * 12)) = some (.int .i64 xs[k].kind) ∧ w.cell? ⟨(ad.add (k * 12)).block, (ad.add (k * 12)).off + 1, none⟩ = some (.int .i64 xs[k].who.role) ∧ w.cell? ⟨(ad.add (k * 12)).block, (ad.add (k * 12)).off + 2, none⟩ = some (.int .i64 xs[k].who.why) ∧
    w.cell? ⟨(ad.add (k * 12)).block, (ad.add (k * 12)).off + 3, none⟩ = some (.int .i64 xs[k].who.time) ∧ w.cell? ⟨(ad.add (k * 12)).block, (ad.add (k * 12)).off + 4, none⟩ = some (.slice B1 xs[k].rules.length e1) ∧
    w.cell? ⟨(ad.add (k * 12)).block, (ad.add (k * 12)).off + 5, none⟩ = some (.string xs[k].r.id) ∧ w.cell? ⟨(ad.add (k * 12)).block, (ad.add (k * 12)).off + 6, none⟩ = some (.int .i64 xs[k].r.cats) ∧
    w.cell? ⟨(ad.add (k * 12)).block, (ad.add (k * 12)).off + 7, none⟩ = some (.slice B2 xs[k].r.fields.length e2) ∧ w.cell? ⟨(ad.add (k * 12)).block, (ad.add (k * 12)).off + 8, none⟩ = some (.slice B3 xs[k].r.refs.length e3) ∧
    w.cell? ⟨(ad.add (k * 12)).block, (ad.add (k * 12)).off + 9, none⟩ = some (.string xs[k].id) ∧ w.cell? ⟨(ad.add (k * 12)).block, (ad.add (k * 12)).off + 10, none⟩ = some (.string xs[k].f.key) ∧ w.cell? ⟨(ad.add (k * 12)).block, (ad.add (k * 12)).off + 11, none⟩ = some (.string xs[k].f.val)) ∧
    Aside (rulR.Row w ok B1 xs[k].rules ∧ fldR.Row w ok B2 xs[k].r.fields ∧ xs[k].r.fields.length ≤ e2 ∧ str.Row w ok B3 xs[k].r.refs ∧ xs[k].r.refs.length ≤ e3 ∧ xs[k].rules.length ≤ e1) := by
  obtain ⟨ad, c, e, hb, ho, hK, hc0⟩ := h.at_ hk
  have hc : ∀ i u, c[i]? = some u → w.cell? (ad.add (k * 12 + i)) = some u := hc0
  obtain ⟨_, _, _, rfl, ⟨B1, e1, rfl, l1, r1⟩, ⟨B2, e2, rfl, l2, r2⟩, ⟨B3, e3, rfl, l3, r3⟩⟩ := hK
  refine ⟨ad, B1, e1, B2, e2, B3, e3, e, hb, ho, ⟨hc 0 _ rfl, ?_, ?_, ?_, ?_, ?_, ?_, ?_, ?_, ?_, ?_, ?_⟩, ⟨r1, r2, l2, r3, l3, l1⟩⟩
  · rw [← add_field _ _ 1 (by omega)]; exact hc 1 _ rfl
  · rw [← add_field _ _ 2 (by omega)]; exact hc 2 _ rfl
  · rw [← add_field _ _ 3 (by omega)]; exact hc 3 _ rfl
  · rw [← add_field _ _ 4 (by omega)]; exact hc 4 _ rfl
  · rw [← add_field _ _ 5 (by omega)]; exact hc 5 _ rfl
  · rw [← add_field _ _ 6 (by omega)]; exact hc 6 _ rfl
  · rw [← add_field _ _ 7 (by omega)]; exact hc 7 _ rfl
  · rw [← add_field _ _ 8 (by omega)]; exact hc 8 _ rfl
  · rw [← add_field _ _ 9 (by omega)]; exact hc 9 _ rfl
  · rw [← add_field _ _ 10 (by omega)]; exact hc 10 _ rfl
  · rw [← add_field _ _ 11 (by omega)]; exact hc 11 _ rfl
/-- What is told is read, in blocks that are new. -/
structure TXn (N : Nat) (A1 A2 A3 : Option Addr) (t : Told) (w : World) : Prop where
  v : verR.Row w (fun k => N ≤ k) A1 t.vers
  i : str.Row w (fun k => N ≤ k) A2 t.ids
  n : nteR.Row w (fun k => N ≤ k) A3 t.notes
theorem TXn.tx {N : Nat} {A1 A2 A3 : Option Addr} {t : Told} {w : World} (h : TXn N A1 A2 A3 t w) : TX A1 A2 A3 t w := ⟨h.v.mono fun _ _ _ => trivial, h.i.mono fun _ _ _ => trivial, h.n.mono fun _ _ _ => trivial⟩
theorem TXn.chg {N : Nat} {A1 A2 A3 : Option Addr} {t : Told} {w w' : World} {S : Nat → Prop} (h : TXn N A1 A2 A3 t w) (hc : Chg S w w') (hS : ∀ k, S k → k < N) : TXn N A1 A2 A3 t w' :=
  have hm : ∀ k, N ≤ k → k < w.heap.size → w'.heap[k]? = w.heap[k]? := fun k hk hl => hc.block k hl fun e => by have := hS k e; omega
  ⟨h.v.move hm, h.i.move hm, h.n.move hm⟩
theorem Twin.of {a b : Srv} (h : Twin a b) : a.up = b.up ∧ a.rules = b.rules ∧ a.l = b.l ∧ a.notes = b.notes := by
  unfold Twin at h
  rw [h]
  exact ⟨rfl, rfl, rfl, rfl⟩
theorem SrvOk.twin {a b : Srv} (h : Twin a b) (hb : SrvOk b) : SrvOk a := by
  obtain ⟨e1, e2, e3, e4⟩ := h.of
  exact ⟨by rw [e1]; exact hb.up, by rw [e2]; exact hb.rules, by rw [e3]; exact hb.st, by rw [e4]; exact hb.n60⟩
variable {w W wr : World} {ga gb n : Nat} {a b : Srv} {o : OpV} {B1 B2 B3 : Option Addr} {e1 e2 e3 : Nat}
/-- The lists of what is asked, as they stood when the law began. -/
structure OpR (w W : World) (o : OpV) (B1 B2 B3 : Option Addr) (e1 e2 e3 : Nat) : Prop where
  r : rulR.Row W (fun k => k < w.heap.size) B1 o.rules
  f : fldR.Row W (fun k => k < w.heap.size) B2 o.r.fields
  f2 : o.r.fields.length ≤ e2
  g : str.Row W (fun k => k < w.heap.size) B3 o.r.refs
  g2 : o.r.refs.length ≤ e3
  r1 : o.rules.length ≤ e1
theorem OpR.at {W' : World} (h : OpR w W o B1 B2 B3 e1 e2 e3) (hb : Below w.heap.size w W) (hb' : Below w.heap.size w W') : OpR w W' o B1 B2 B3 e1 e2 e3 :=
  have hm : ∀ k, k < w.heap.size → k < W.heap.size → W'.heap[k]? = W.heap[k]? := fun k hk _ => (hb'.block k hk).trans (hb.block k hk).symm
  ⟨h.r.move hm, h.f.move hm, h.f2, h.g.move hm, h.g2, h.r1⟩
theorem callA (h : Duo w W ga gb a b) (ht : Twin a b) (hok : SrvOk b) (hr : OpR w W o B1 B2 B3 e1 e2 e3) :
    Calls Tryz.prog 12 #[.pointer (some ⟨ga, 0, none⟩), opVal o B1 e1 B2 e2 B3 e3] W (DidP W ga w.heap.size (Xs ga gb a.nv b.nv) a o) :=
  doEveryP ga w.heap.size (Xs ga gb a.nv b.nv) a o B1 e1 B2 e2 B3 e3 _ _ _ W h.sa (fun k hk => ⟨hk.1, hk.2.2.1⟩) h.na h.bel.size (fun k hk => (h.aa k hk).1) (hok.twin ht).n60 hr.r hr.f hr.f2 hr.g hr.g2
theorem callB (h : Duo w W ga gb a b) (hok : SrvOk b) (hr : OpR w W o B1 B2 B3 e1 e2 e3) (hwf : RecWf o.r ∧ o.f.val.size ≤ 9223372036854775807) :
    Calls Tryz.prog 37 #[.pointer (some ⟨gb, 0, none⟩), opVal o B1 e1 B2 e2 B3 e3] W (DidN W gb w.heap.size (Xs gb ga b.nv a.nv) b o) :=
  rdEvery gb w.heap.size (Xs gb ga b.nv a.nv) (fun k => k < w.heap.size) b o B1 e1 B2 e2 B3 e3 W h.symm.sa (fun k hk => ⟨hk.1, hk.2.2.1⟩) (fun k hk => ⟨⟨by have := h.gb_; omega, by have := h.ga_; omega, fun e => by have := (h.nb.lt k e.symm).1; omega, fun e => by have := (h.na.lt k e.symm).1; omega⟩, Nat.lt_of_lt_of_le hk h.bel.size⟩) h.nb h.bel.size (fun k hk => (h.bb k hk).2) hok.st hok.n60 hwf.1 hwf.2 hr.r hr.r1 hr.f hr.f2 hr.g hr.g2
theorem stepA {e : Ending} {w2 : World} (h : Duo w W ga gb a b) (ht : Twin a b) (hd : DidP W ga w.heap.size (Xs ga gb a.nv b.nv) a o e w2) :
    ∃ P1 p1 P2 p2 P3 p3 a', e = .returned (.agg (toldC (doS b o).2 P1 p1 P2 p2 P3 p3).toArray) ∧ TXn W.heap.size P1 P2 P3 (doS b o).2 w2 ∧ Duo w w2 ga gb a' b ∧ Twin a' (doS b o).1 ∧ Chg (fun k => k = ga ∨ a.nv.ownBlock = some k) W w2 := by
  obtain ⟨v1, v2, v3, nv, he, s1, s2, s3, hs, hn, hat, hc⟩ := hd
  obtain ⟨t1, t2⟩ := doS_twin (o := o) ht
  rw [t1] at s1 s2 s3 he
  obtain ⟨P1, p1, rfl, _, r1⟩ := s1
  obtain ⟨P2, p2, rfl, _, r2⟩ := s2
  obtain ⟨P3, p3, rfl, _, r3⟩ := s3
  refine ⟨P1, p1, P2, p2, P3, p3, { (doS a o).1 with nv := nv }, he, ⟨r1, r2, r3⟩, h.step hs hn hat hc, ?_, hc⟩
  unfold Twin at t2 ⊢
  rw [t2]
theorem stepB {e : Ending} {w2 : World} (h : Duo w W ga gb a b) (hd : DidN W gb w.heap.size (Xs gb ga b.nv a.nv) b o e w2) :
    ∃ P1 p1 P2 p2 P3 p3 b', e = .returned (.agg (toldC (doS b o).2 P1 p1 P2 p2 P3 p3).toArray) ∧ TX P1 P2 P3 (doS b o).2 w2 ∧ Duo w w2 ga gb a b' ∧ Twin b' (doS b o).1 ∧ Chg (fun k => k = gb ∨ b.nv.ownBlock = some k) W w2 := by
  obtain ⟨v1, v2, v3, nv, he, s1, s2, s3, hs, hn, hat, hc⟩ := hd
  obtain ⟨P1, p1, rfl, _, r1⟩ := s1
  obtain ⟨P2, p2, rfl, _, r2⟩ := s2
  obtain ⟨P3, p3, rfl, _, r3⟩ := s3
  exact ⟨P1, p1, P2, p2, P3, p3, { (doS b o).1 with nv := nv }, he, ⟨r1, r2, r3⟩, (h.symm.step hs hn hat hc).symm, rfl, hc⟩
theorem Twin.both {c : Srv} (h1 : Twin a c) (h2 : Twin b c) : Twin a b := by
  unfold Twin at *
  generalize a.nv = x at *
  generalize b.nv = y at *
  subst h1 h2
  rfl
/-- The box of what is asked stays. -/
theorem box_chg {w2 : World} {cs : List Value} {g : Nat} {s : Srv} (h : Bk W n cs) (hg : g < n) (hn : ∀ k, s.nv.ownBlock = some k → k < n) (hc : Chg (fun k => k = g ∨ s.nv.ownBlock = some k) W w2) : Bk w2 n cs :=
  bk_chg h hc fun e => e.elim (fun e => by omega) fun e => by have := hn n e; omega
abbrev Ko (W : World) (n : Nat) (o : OpV) (B1 B2 B3 : Option Addr) (e1 e2 e3 : Nat) : Prop :=
  W.cell? { block := n, off := 0 } = some (.int .i64 o.kind) ∧ W.cell? { block := n, off := 1 } = some (.int .i64 o.who.role) ∧ W.cell? { block := n, off := 2 } = some (.int .i64 o.who.why) ∧ W.cell? { block := n, off := 3 } = some (.int .i64 o.who.time) ∧
  W.cell? { block := n, off := 4 } = some (.slice B1 o.rules.length e1) ∧ W.cell? { block := n, off := 5 } = some (.string o.r.id) ∧ W.cell? { block := n, off := 6 } = some (.int .i64 o.r.cats) ∧ W.cell? { block := n, off := 7 } = some (.slice B2 o.r.fields.length e2) ∧
  W.cell? { block := n, off := 8 } = some (.slice B3 o.r.refs.length e3) ∧ W.cell? { block := n, off := 9 } = some (.string o.id) ∧ W.cell? { block := n, off := 10 } = some (.string o.f.key) ∧ W.cell? { block := n, off := 11 } = some (.string o.f.val)
theorem ko_of (h : Bk W n (opC o B1 e1 B2 e2 B3 e3)) : Ko W n o B1 B2 B3 e1 e2 e3 := ⟨h.cell 0, h.cell 1, h.cell 2, h.cell 3, h.cell 4, h.cell 5, h.cell 6, h.cell 7, h.cell 8, h.cell 9, h.cell 10, h.cell 11⟩
/-- What the law reads of the document's server. -/
theorem Duo.refs (h : Duo w W ga gb a b) : ∃ A2 c2 A3 c3, W.cell? ⟨gb, 1, none⟩ = some (.slice A2 b.rules.length c2) ∧ W.cell? ⟨gb, 2, none⟩ = some (.slice A3 b.l.length c3) ∧ rulR.Row W (fun _ => True) A2 b.rules ∧ verR.Row W (fun _ => True) A3 b.l := by
  obtain ⟨A1, c1, A2, c2, A3, c3, A4, c4, h0, h1, h2, h3, h4⟩ := h.sb
  exact ⟨A2, c2, A3, c3, h0.cell 1, h0.cell 2, h2.2.mono fun _ _ _ => trivial, h3.2.mono fun _ _ _ => trivial⟩
def op0 : OpV := ⟨0, ⟨0, 0, 0⟩, [], ⟨⟨#[]⟩, 0, [], []⟩, ⟨#[]⟩, ⟨⟨#[]⟩, ⟨#[]⟩⟩⟩
end Go.Proofs.WK
