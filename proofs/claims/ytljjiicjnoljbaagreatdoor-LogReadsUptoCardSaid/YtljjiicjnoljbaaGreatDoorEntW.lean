/-
  wyref.said: rules (P47).
  wyref.said, whatever the words (P47).
-/
import Derived.Deep.RegionLaw
import Derived.Test.YtljjiicjnoljbaaGreatDoorEntS
import Derived.Test.YtljjiicjnoljbaaGreatDoorGot
namespace Go.Proofs.WK
open Go.RowKit Rp
theorem nums5 (a b c d e : ByteArray) : (numsX [a, b, c, d, e] = none ∧ ∀ f, rulX a b c d e f = none) ∨ ∃ x1 x2 x3 x4 x5, numsX [a, b, c, d, e] = some [x1, x2, x3, x4, x5] ∧ ∀ f, rulX a b c d e f = (yesX f).map fun y => ⟨x1, x2, x3, x4, x5, y⟩ := by
  unfold rulX
  simp only [numsX]
  cases numV a <;> cases numV b <;> cases numV c <;> cases numV d <;> cases numV e <;> simp
  exact ⟨_, _, _, _, _, ⟨rfl, rfl, rfl, rfl, rfl⟩, fun f => by cases yesX f <;> rfl⟩
theorem ruls_short {l : List ByteArray} (h : l ≠ []) (h6 : l.length < 6) : rulsX l = none := by
  match l, h, h6 with
  | [], h, _ => exact absurd rfl h
  | [_], _, _ => rfl
  | [_, _], _, _ => rfl
  | [_, _, _], _, _ => rfl
  | [_, _, _, _], _, _ => rfl
  | [_, _, _, _, _], _, _ => rfl
  | _ :: _ :: _ :: _ :: _ :: _ :: _, _, h6 => simp at h6; omega
theorem ruls_six {a b c d e f : ByteArray} {l : List ByteArray} : rulsX (a :: b :: c :: d :: e :: f :: l) = match rulX a b c d e f, rulsX l with
    | some r, some rs => some (r :: rs)
    | _, _ => none := rfl
theorem ruls_none {a b c d e f : ByteArray} {l : List ByteArray} (h : rulX a b c d e f = none) : rulsX (a :: b :: c :: d :: e :: f :: l) = none := by rw [ruls_six, h]
theorem ruls_some {a b c d e f : ByteArray} {l : List ByteArray} {r : Rul} (h : rulX a b c d e f = some r) : rulsX (a :: b :: c :: d :: e :: f :: l) = (rulsX l).map fun x => r :: x := by
  rw [ruls_six, h]
  cases rulsX l <;> rfl
theorem rul_yes {a b c d e f : ByteArray} (h : yesX f = none) : rulX a b c d e f = none := by
  unfold rulX
  rw [h]
  cases numV a <;> cases numV b <;> cases numV c <;> cases numV d <;> cases numV e <;> rfl
abbrev rulO (v : Value) : List Value := [.int .i64 1, .int .i64 0, .int .i64 0, .int .i64 0, v, .string ⟨#[]⟩, .int .i64 0, .slice none 0 0, .slice none 0 0, .string ⟨#[]⟩, .string ⟨#[]⟩, .string ⟨#[]⟩]
structure RuS (w W : World) (Q base : Nat) (v : Value) (rs : List Rul) (t l : List ByteArray) (ok : Nat → Prop) (A : Option Addr) (c : Nat) : Prop where
  row : str.Row w ok A l
  cap : l.length ≤ c
  at_ : RulAt t rs l false
  len : rs.length + l.length ≤ t.length
  bo : Bk W Q (rulO v)
  br : Bk W w.heap.size opZ
  bel : Below w.heap.size w W
  own : rulR.Own 89 W base (fun _ => False) v rs
  le : base ≤ W.heap.size
  lt : Q < base
  lo : w.heap.size < Q
  sz : ∀ x ∈ l, x.size < 4294967281
theorem RuS.below {w W W' : World} {Q base : Nat} {v : Value} {rs : List Rul} {t l : List ByteArray} {ok : Nat → Prop} {A : Option Addr} {c : Nat} (h : RuS w W Q base v rs t l ok A c) (hb : Below W.heap.size W W') : RuS w W' Q base v rs t l ok A c :=
  ⟨h.row, h.cap, h.at_, h.len, h.bo.below hb, h.br.below hb, below_step h.bel hb, h.own.below hb, Nat.le_trans h.le hb.size, h.lt, h.lo, h.sz⟩
theorem RuS.fin {w W : World} {Q base : Nat} {v : Value} {rs : List Rul} {t l ws : List ByteArray} {ok : Nat → Prop} {A : Option Addr} {c : Nat} (h : RuS w W Q base v rs t l ok A c) {b : Bool} (hs : (saidX ws).isSome = b) (hx : ∀ x, saidX ws = some x → x = { opNo with kind := 1, rules := rs }) (a0 a1 a2 a3 a4 a5 a6 a7 a8 a9 a10 a11 : Value) :
    SaidD ws w (.returned (.tuple #[.agg (rulO v).toArray, .bool b])) ((((((((((((W.setCell ⟨w.heap.size, 0, none⟩ a0).setCell ⟨w.heap.size, 1, none⟩ a1).setCell ⟨w.heap.size, 2, none⟩ a2).setCell ⟨w.heap.size, 3, none⟩ a3).setCell ⟨w.heap.size, 4, none⟩ a4).setCell ⟨w.heap.size, 5, none⟩ a5).setCell ⟨w.heap.size, 6, none⟩ a6).setCell ⟨w.heap.size, 7, none⟩ a7).setCell ⟨w.heap.size, 8, none⟩ a8).setCell ⟨w.heap.size, 9, none⟩ a9).setCell ⟨w.heap.size, 10, none⟩ a10).setCell ⟨w.heap.size, 11, none⟩ a11) := by
  subst hs
  refine ⟨{ opNo with kind := 1, rules := rs }, v, .slice none 0 0, .slice none 0 0, rfl, fun x hx' => (hx x hx').symm, ?_, Sl.nil _ _ _, Sl.nil _ _ _, below_twelve h.bel (Nat.le_refl _) _ _ _ _ _ _ _ _ _ _ _ _⟩
  have hlt := h.own.lt
  have h1 := h.lt
  have h2 := h.lo
  obtain ⟨X, d, rfl, hd, hr⟩ := h.own.sl
  exact said_fin1 (hr.mono fun k hk _ => hk.elim False.elim fun hk => by have := (hlt k hk).1; omega) hd _ _ _ _ _ _ _ _ _ _ _ _
theorem said_ill {t l : List ByteArray} {rs : List Rul} (h : RulAt t rs l false) (hs : rulsX l = none) : saidX (sRules :: t) = none := by
  unfold RulAt at h
  rw [saidX_rules, h, if_neg (by decide), hs]
  rfl
theorem six_of {l : List ByteArray} (h : 6 ≤ l.length) : ∃ a b c d e f t, l = a :: b :: c :: d :: e :: f :: t := by
  match l, h with
  | a :: b :: c :: d :: e :: f :: t, _ => exact ⟨a, b, c, d, e, f, t, rfl⟩
theorem RuS.bk2 {w W W2 : World} {Q base : Nat} {v : Value} {rs : List Rul} {t l : List ByteArray} {ok : Nat → Prop} {A : Option Addr} {c : Nat} (h : RuS w W Q base v rs t l ok A c) (hg : W.grownBy W2 v.ownBlock) : Bk W2 Q (rulO v) :=
  h.bo.grown hg fun e => by have := (h.own.lt Q e.symm).1; have := h.lt; omega
theorem RuS.put {w W W2 : World} {Q base : Nat} {v v1 : Value} {rs rs2 : List Rul} {t l l2 : List ByteArray} {ok : Nat → Prop} {A A2 : Option Addr} {c c2 : Nat} (h : RuS w W Q base v rs t l ok A c) (hg : W.grownBy W2 v.ownBlock) (ho : rulR.Own 89 W2 base (fun _ => False) v1 rs2)
    (hrow : str.Row w ok A2 l2) (hcap : l2.length ≤ c2) (hat : RulAt t rs2 l2 false) (hlen : rs2.length + l2.length ≤ t.length) (hsz : ∀ x ∈ l2, x.size < 4294967281) : RuS w (W2.setCell ⟨Q, 4, none⟩ v1) Q base v1 rs2 t l2 ok A2 c2 := by
  have h1 := h.lt
  have h2 := h.lo
  have hb : Below w.heap.size w W2 := h.bel.grown hg h.bel.size fun j hj => by have := (h.own.lt j hj).1; omega
  refine ⟨hrow, hcap, hat, hlen, (h.bk2 hg).set 4 _, (h.br.grown hg fun e => by have := (h.own.lt _ e.symm).1; omega).other (by omega) _, below_set hb (show w.heap.size ≤ Q by omega) _, ho.move (fun k hk => Below.heap_setCell _ _ _ k fun e => ?_) (fun k hk => hk.elim), ?_, h.lt, h.lo, hsz⟩
  · have e2 : k = Q := e
    have := (ho.lt k hk).1
    omega
  · have h3 := h.le
    have h4 := hg.size
    simp [World.setCell]
    omega
def slLen : Value → Nat
  | .slice _ n _ => n
  | _ => 0
set_option maxRecDepth 100000 in
set_option maxHeartbeats 8000000 in
theorem refSaidR (A : Option Addr) (c : Nat) (h0 : ByteArray) (t0 : List ByteArray) (ok : Nat → Prop) (w : World) (hr : str.Row w ok A (h0 :: t0)) (hc : (h0 :: t0).length ≤ c) (e3 : h0 = sRules) (hz : ∀ x ∈ h0 :: t0, x.size < 4294967281) (hlen : t0.length ≤ 4294967281) :
    Calls Tryz.prog 114 #[.slice A (h0 :: t0).length c] w (SaidD (h0 :: t0) w) := by
  obtain ⟨ad, rfl, hbl, hxx⟩ := str_at hr (k := 0) (by simp)
  clear hbl hxx
  have hb : Below w.heap.size w (w.alloc (.cells opZ.toArray 40)) := (Below.refl _ _).alloc (Nat.le_refl _) _
  obtain ⟨ad', h, hbl, x0⟩ := str_at (hr.below hb) (k := 0) (by simp)
  obtain rfl : ad = ad' := Option.some.inj h
  have x0' : (w.alloc (.cells opZ.toArray 40)).cell? ad = some (.string h0) := x0
  have HR := Aside.mk (Bk.made w opZ 40)
  have HB := Aside.mk hb
  have HZ := Aside.mk hz
  have HW := Aside.mk hr
  have HE3 := Aside.mk e3
  have HLEN := Aside.mk hlen
  have HC := Aside.mk hc
  have g3 : (h0.toList == [114, 117, 108, 101, 115]) = true := by rw [w_rules, decide_eq_true e3]
  have hD1 : str.Row w ok (if c = 1 then some ad else some (ad.add 1)) t0 := hr.drop (n := 1) (by simp) hc
  have HD1 := Aside.mk hD1
  obtain ⟨N, hN⟩ : ∃ N, (h0 :: t0).length = N + 1 := ⟨t0.length, by simp⟩
  have hN' : N = t0.length := by simp at hN; omega
  have HN := Aside.mk hN'
  have c1 : N + 1 ≤ c := by omega
  have c2 : (1 : Int) ≤ (c : Int) := by omega
  have c3 : 1 ≤ c := by omega
  have c4 : (((N + 1 : Nat) : Int)) ≤ (c : Int) := by omega
  have c5 : (1 : Int) ≤ ((N + 1 : Nat) : Int) := by omega
  rw [hN]
  clear x0 hbl h hr hb hz e3 hlen hc hN hN' hD1
  go_enter Tryz.func114, Tryz.ntmps114
  go_upto_region 1 with fail
  generalize w.alloc _ = W at x0' HR HB ⊢
  go_upto_region 3 with fail
  have hal : Below W.heap.size W (W.alloc (.cells (rulO (.slice none 0 0)).toArray 40)) := (Below.refl _ _).alloc (Nat.le_refl _) _
  have HO3 := Aside.mk (Bk.made W (rulO (.slice none 0 0)) 40)
  have HR3 := Aside.mk (HR.out.below hal)
  have HB3 := Aside.mk (below_step HB.out hal)
  have HLO := Aside.mk HR.out.lt
  have HS3 : Aside ((W.alloc (.cells (rulO (.slice none 0 0)).toArray 40)).heap.size = W.heap.size + 1) := ⟨by simp⟩
  clear x0' hal HR HB
  generalize W.heap.size = Q at HO3 HLO HS3 ⊢
  generalize W.alloc _ = W3 at HO3 HR3 HB3 HS3 ⊢
  go_cut [0] (fun s wx => wx = W3 ∧ ∃ (A : Option Addr) (c : Nat), s = .slice A N c ∧ Aside (t0.length ≤ c ∧ str.Row w ok A t0))
  case first =>
    by_cases h1 : c = 1
    · subst h1
      have hN0 : N = 0 := by omega
      subst hN0
      have HD2 := Aside.mk (show t0.length ≤ 0 ∧ str.Row w ok (some ad) t0 from ⟨Nat.le_of_eq HN.out.symm, HD1.out⟩)
      clear HD1
      go_wp2_with fail
      go_meet
      exact ⟨rfl, _, _, rfl, HD2⟩
    · have HD2 := Aside.mk (show t0.length ≤ c - 1 ∧ str.Row w ok (some (ad.add 1)) t0 from ⟨by have := HN.out; omega, by have h := HD1.out; rw [if_neg h1] at h; exact h⟩)
      clear HD1
      go_wp2_with fail
      go_meet
      exact ⟨rfl, _, _, rfl, HD2⟩
  case rest =>
    obtain ⟨rfl, A1, c', rfl, HD⟩ := hcut
    have hNN := HN.out
    subst hNN
    have HS := Aside.mk (show RuS w wc Q (Q + 1) (.slice none 0 0) [] t0 t0 ok A1 c' from ⟨HD.out.2, HD.out.1, RulAt.start t0, by simp, HO3.out, HR3.out, HB3.out, Own.nil _ _ _ _ _, Nat.le_of_eq HS3.out.symm, Nat.lt_succ_self _, HLO.out, fun x hx => HZ.out x (List.mem_cons_of_mem _ hx)⟩)
    clear HD HN HO3 HR3 HB3 HS3 HLO HD1 c1 c2 c3 c4 c5 HC g3
    go_wp2_with fail
    go_loopw [0] (fun s wr => ∃ (A : Option Addr) (c : Nat) (l : List ByteArray) (v : Value) (rs : List Rul), s = .slice A l.length c ∧ Aside (RuS w wr Q (Q + 1) v rs t0 l ok A c)) (fun s _ => slLen s)
    case atStart => exact ⟨_, _, _, _, _, rfl, HS⟩
    case round =>
      clear HS
      obtain ⟨A, c, l, v, rs, rfl, HA⟩ := hrel
      obtain ⟨AO, cO, rfl, hcO, _⟩ := HA.out.own.sl
      have q0 := HA.out.bo.twelve
      have p0 := HA.out.br.twelve
      by_cases hl : l = []
      · subst hl
        have HK := said_rules HA.out.at_ (Or.inl rfl)
        rw [← HE3.out] at HK
        have HS1 := Aside.mk (show (saidX (h0 :: t0)).isSome = true from HK.1)
        have HS2 := Aside.mk HK.2
        clear HK
        rw [show ([] : List ByteArray).length = 0 from rfl]
        go_wp2_with fail
        refine bodyPost_ret (v := .tuple #[.agg (rulO (.slice AO rs.length cO)).toArray, .bool true]) ?_ rfl ?_
        · simp [results, Tryz.results114, go_sem, p0]
        · exact HA.out.fin HS1.out HS2.out _ _ _ _ _ _ _ _ _ _ _ _
      · have hl0 : 0 < l.length := List.length_pos_iff.2 hl
        have i0 : (0 : Int) < (l.length : Int) := by omega
        obtain ⟨L, hL⟩ : ∃ L, L = l.length := ⟨_, rfl⟩
        have HL := Aside.mk hL
        rw [← hL] at hl0 i0 ⊢
        by_cases h6 : L < 6
        · have g6 : decide ((L : Int) < 6) = true := decide_eq_true (by omega)
          have HS0 := Aside.mk (show saidX (h0 :: t0) = none from HE3.out ▸ said_ill HA.out.at_ (ruls_short hl (by have := HL.out; omega)))
          have HS1 := Aside.mk (show (saidX (h0 :: t0)).isSome = false by rw [HS0.out]; rfl)
          have HS2 := Aside.mk (show ∀ x, saidX (h0 :: t0) = some x → x = { opNo with kind := 1, rules := rs } from fun x hx => by rw [HS0.out] at hx; cases hx)
          clear hL h6 hl
          go_wp2_with fail
          refine bodyPost_ret (v := .tuple #[.agg (rulO (.slice AO rs.length cO)).toArray, .bool false]) ?_ rfl ?_
          · simp [results, Tryz.results114, go_sem, p0]
          · exact HA.out.fin HS1.out HS2.out _ _ _ _ _ _ _ _ _ _ _ _
        · obtain ⟨a, b, d, e, f, g, l', rfl⟩ := six_of (l := l) (by omega)
          have g6 : decide ((L : Int) < 6) = false := decide_eq_false (by omega)
          have i6 : (6 : Int) ≤ (L : Int) := by omega
          have i5 : (5 : Int) < (L : Int) := by omega
          have n5 : 5 < L := by omega
          have n6 : 6 ≤ L := by omega
          have hcap := HA.out.cap
          rw [← hL] at hcap
          have j5 : (5 : Int) ≤ (c : Int) := by omega
          have j5' : 5 ≤ c := by omega
          have jL : (L : Int) ≤ (c : Int) := by omega
          obtain ⟨ad, rfl, _, x5⟩ := str_at (HA.out.row.below HA.out.bel) (k := 5) (by simp)
          have x5' : wr.cell? ⟨ad.block, ad.off + 5, none⟩ = some (.string g) := x5
          have HX5 := Aside.mk (show wr.cell? ⟨ad.block, ad.off + 5, none⟩ = some (.string g) from x5)
          have HRW : Aside (str.Row wr ok (some ad) [a, b, d, e, f]) := ⟨(HA.out.row.below HA.out.bel).take 5⟩
          obtain ⟨y, hy⟩ : ∃ y, y = decide (g = ⟨#[121, 101, 115]⟩) := ⟨_, rfl⟩
          obtain ⟨z, hz⟩ : ∃ z, z = decide (g = ⟨#[110, 111]⟩) := ⟨_, rfl⟩
          have HYZ := Aside.mk (show (yesX g).isNone = (!y && !z) by rw [yes_none, hy, hz])
          have HY := Aside.mk hy
          have gy : (g.toList == [121, 101, 115]) = y := by rw [hy, w_yes]
          have gz : (g.toList == [110, 111]) = z := by rw [hz, w_no]
          have gy2 : (g.toList != [121, 101, 115]) = !y := by rw [bne, gy]
          have gz2 : (g.toList != [110, 111]) = !z := by rw [bne, gz]
          have HZ5 : Aside (∀ x ∈ [a, b, d, e, f], x.size < 4294967281) := ⟨fun x hx => HA.out.sz x (by simp at hx ⊢; rcases hx with h | h | h | h | h <;> simp [h])⟩
          clear x5 hy hz hL h6 hl
          go_upto_region 6 with fail
          go_cut [38] (fun x wx => x = .bool (!y && !z) ∧ wx = wr)
          case first =>
            cases y <;> cases z <;> (go_wp2_with fail; go_meet; exact ⟨rfl, rfl⟩)
          case rest =>
            obtain ⟨rfl, rfl⟩ := hcut
            cases hyz : (!y && !z) with
            | true =>
              have HS0 := Aside.mk (show saidX (h0 :: t0) = none from HE3.out ▸ said_ill HA.out.at_ (ruls_none (rul_yes (by have h := HYZ.out; rw [hyz] at h; exact Option.isNone_iff_eq_none.1 h))))
              have HS1 := Aside.mk (show (saidX (h0 :: t0)).isSome = false by rw [HS0.out]; rfl)
              have HS2 := Aside.mk (show ∀ x, saidX (h0 :: t0) = some x → x = { opNo with kind := 1, rules := rs } from fun x hx => by rw [HS0.out] at hx; cases hx)
              clear hyz
              go_wp2_with fail
              refine bodyPost_ret (v := .tuple #[.agg (rulO (.slice AO rs.length cO)).toArray, .bool false]) ?_ rfl ?_
              · simp [results, Tryz.results114, go_sem, p0]
              · exact HA.out.fin HS1.out HS2.out _ _ _ _ _ _ _ _ _ _ _ _
            | false =>
              have HYS := Aside.mk (show yesX g = some y from by
                have h := HYZ.out
                rw [hyz] at h
                have h2 := HY.out
                unfold yesX at h ⊢
                by_cases e1 : g = ⟨#[121, 101, 115]⟩
                · rw [if_pos e1, h2, decide_eq_true e1]
                · rw [if_neg e1] at h ⊢
                  by_cases e2 : g = ⟨#[110, 111]⟩
                  · rw [if_pos e2, h2, decide_eq_false e1]
                  · rw [if_neg e2] at h; cases h)
              clear hyz
              go_wp2_with fail
              refine (refNums _ _ 5 [a, b, d, e, f] ok _ HRW.out rfl HZ5.out (show (5 : Nat) ≤ 4294967281 by decide)).mono ?_
              rintro e0 w2 ⟨v, rfl, hv, hb2⟩
              have HA2 := Aside.mk (HA.out.below hb2)
              have y5 := cell_below hb2 x5'
              clear q0 p0 hb2 x5' HX5 HRW
              rcases nums5 a b d e f with ⟨hn, hw⟩ | ⟨n1, n2, n3, n4, n5', hn, hw⟩
              · rw [hn]
                have HS0 := Aside.mk (show saidX (h0 :: t0) = none from HE3.out ▸ said_ill HA.out.at_ (ruls_none (hw g)))
                have HS1 := Aside.mk (show (saidX (h0 :: t0)).isSome = false by rw [HS0.out]; rfl)
                have HS2 := Aside.mk (show ∀ x, saidX (h0 :: t0) = some x → x = { opNo with kind := 1, rules := rs } from fun x hx => by rw [HS0.out] at hx; cases hx)
                have q0 := HA2.out.bo.twelve
                have p0 := HA2.out.br.twelve
                clear hn hw hv HA
                rw [show (none : Option (List Int)).isSome = false from rfl]
                go_wp2_with fail
                refine bodyPost_ret (v := .tuple #[.agg (rulO (.slice AO rs.length cO)).toArray, .bool false]) ?_ rfl ?_
                · simp [results, Tryz.results114, go_sem, p0]
                · exact HA2.out.fin HS1.out HS2.out _ _ _ _ _ _ _ _ _ _ _ _
              · obtain ⟨AN, cN, rfl, hcN, hrN⟩ := hv _ hn
                rw [hn]
                have HAT := Aside.mk (HA.out.at_.good (ruls_some (show rulX a b d e f g = some ⟨n1, n2, n3, n4, n5', y⟩ by rw [hw g, HYS.out]; rfl)))
                obtain ⟨an, rfl, hln, z0⟩ := int_at hrN (k := 0) (by simp)
                obtain ⟨an', h1, _, z1⟩ := int_at hrN (k := 1) (by simp)
                obtain rfl : an = an' := Option.some.inj h1
                obtain ⟨an', h2, _, z2⟩ := int_at hrN (k := 2) (by simp)
                obtain rfl : an = an' := Option.some.inj h2
                obtain ⟨an', h3, _, z3⟩ := int_at hrN (k := 3) (by simp)
                obtain rfl : an = an' := Option.some.inj h3
                obtain ⟨an', h4, _, z4⟩ := int_at hrN (k := 4) (by simp)
                obtain rfl : an = an' := Option.some.inj h4
                have z0' : w2.cell? an = some (.int .i64 n1) := z0
                have z1' : w2.cell? ⟨an.block, an.off + 1, none⟩ = some (.int .i64 n2) := z1
                have z2' : w2.cell? ⟨an.block, an.off + 2, none⟩ = some (.int .i64 n3) := z2
                have z3' : w2.cell? ⟨an.block, an.off + 3, none⟩ = some (.int .i64 n4) := z3
                have z4' : w2.cell? ⟨an.block, an.off + 4, none⟩ = some (.int .i64 n5') := z4
                clear hn hw hv hrN z0 z1 z2 z3 z4 h1 h2 h3 h4 hcN
                rw [show (some [n1, n2, n3, n4, n5'] : Option (List Int)).isSome = true from rfl]
                rw [show ([n1, n2, n3, n4, n5'] : List Int).length = 5 from rfl]
                have q2 := HA2.out.bo.twelve
                have HLN : Aside ((rs.length + 1) * 48 ≤ 140737488355328) := ⟨by have := HA.out.len; have := HLEN.out; have := HL.out; omega⟩
                have c2 : w2.cell? ⟨Q, 4, none⟩ = some (.slice AO rs.length cO) := HA2.out.bo.twelve.2.2.2.2.2.1
                have hb1 : Below w2.heap.size w2 (w2.drew.alloc (.cells #[.int .i64 n1, .int .i64 n2, .int .i64 n3, .int .i64 n4, .int .i64 n5', .bool y] 89)) := (Below.refl _ _).drew.alloc (Nat.le_refl _) _
                have HLA := Aside.mk (HA2.out.below hb1)
                have C2 : Aside (w2.drew.cell? ⟨Q, 4, none⟩ = some (.slice AO rs.length cO) ∧ (w2.drew.alloc (.cells #[.int .i64 n1, .int .i64 n2, .int .i64 n3, .int .i64 n4, .int .i64 n5', .bool y] 89)).cell? ⟨Q, 4, none⟩ = some (.slice AO rs.length cO)) := ⟨c2, cell_below hb1 c2⟩
                have ZZ : Aside (w2.drew.cell? an = some (.int .i64 n1) ∧ w2.drew.cell? ⟨an.block, an.off + 1, none⟩ = some (.int .i64 n2) ∧ w2.drew.cell? ⟨an.block, an.off + 2, none⟩ = some (.int .i64 n3) ∧ w2.drew.cell? ⟨an.block, an.off + 3, none⟩ = some (.int .i64 n4) ∧ w2.drew.cell? ⟨an.block, an.off + 4, none⟩ = some (.int .i64 n5') ∧ w2.drew.cell? ⟨ad.block, ad.off + 5, none⟩ = some (.string g)) := ⟨z0', z1', z2', z3', z4', y5⟩
                have N5 := Aside.mk (And.intro n5 i5)
                have GY := Aside.mk gy
                have HL6 : Aside (n6 = n6 ∧ hcap = hcap) := ⟨rfl, rfl⟩
                clear c2 hb1 z0' z1' z2' z3' z4' y5 HA
                go_upto_region 11 with fail
                generalize hA : Act.mk _ _ = AC
                obtain ⟨VS, hVS⟩ : ∃ VS : Value → List Value, VS = fun v => [(.pointer (some ⟨Q, 4, none⟩)), (.slice AO rs.length cO), (.slice (some an) 5 cN), (.pointer (some an)), (.int .i64 n1), (.slice (some an) 5 cN), (.pointer (some ⟨an.block, an.off + 1, none⟩)), (.int .i64 n2), (.slice (some an) 5 cN), (.pointer (some ⟨an.block, an.off + 2, none⟩)), (.int .i64 n3), (.slice (some an) 5 cN), (.pointer (some ⟨an.block, an.off + 3, none⟩)), (.int .i64 n4), (.slice (some an) 5 cN), (.pointer (some ⟨an.block, an.off + 4, none⟩)), (.int .i64 n5'), (.slice (some ad) L c), (.pointer (some ⟨ad.block, ad.off + 5, none⟩)), (.string g), (.bool y), (.agg #[.int .i64 n1, .int .i64 n2, .int .i64 n3, .int .i64 n4, .int .i64 n5', .bool y]), (.slice (some ⟨w2.heap.size, 0, none⟩) 1 1), v, (.pointer (some ⟨Q, 4, none⟩)), undef] := ⟨_, rfl⟩
                obtain ⟨J, hJ⟩ : ∃ J : Array Bool → Act → World → Prop, ∀ L a w, J L a w ↔ ∃ us v, us.length = 26 ∧ a = putAll AC [some 49, some 50, some 51, some 52, some 53, some 54, some 55, some 56, some 57, some 58, some 59, some 60, some 61, some 62, some 63, some 64, some 65, some 66, some 67, some 68, some 69, some 70, some 71, some 72, some 73, none] us ∧ Got L us (VS v) ∧ Ph 22 23 25 w2.drew (w2.drew.alloc (.cells #[.int .i64 n1, .int .i64 n2, .int .i64 n3, .int .i64 n4, .int .i64 n5', .bool y] 89)) (fun v w => rulR.Own 89 w (Q + 1) (fun _ => False) v (rs ++ [⟨n1, n2, n3, n4, n5', y⟩]) ∧ (w2.drew.alloc (.cells #[.int .i64 n1, .int .i64 n2, .int .i64 n3, .int .i64 n4, .int .i64 n5', .bool y] 89)).grownBy w (Value.slice AO rs.length cO).ownBlock) (fun v w => w.setCell ⟨Q, 4, none⟩ v) L w v := ⟨_, fun _ _ _ => Iff.rfl⟩
                have HJ := Aside.mk hJ
                have HVL : Aside (∀ v v', (VS v).length = (VS v').length) := ⟨fun v v' => by rw [hVS]; rfl⟩
                have HVS : Aside (∀ v v' j, j ≠ 23 → (VS v)[j]? = (VS v')[j]?) := ⟨fun v v' j hj => by
                  rw [hVS]
                  exact mid_get [(.pointer (some ⟨Q, 4, none⟩)), (.slice AO rs.length cO), (.slice (some an) 5 cN), (.pointer (some an)), (.int .i64 n1), (.slice (some an) 5 cN), (.pointer (some ⟨an.block, an.off + 1, none⟩)), (.int .i64 n2), (.slice (some an) 5 cN), (.pointer (some ⟨an.block, an.off + 2, none⟩)), (.int .i64 n3), (.slice (some an) 5 cN), (.pointer (some ⟨an.block, an.off + 3, none⟩)), (.int .i64 n4), (.slice (some an) 5 cN), (.pointer (some ⟨an.block, an.off + 4, none⟩)), (.int .i64 n5'), (.slice (some ad) L c), (.pointer (some ⟨ad.block, ad.off + 5, none⟩)), (.string g), (.bool y), (.agg #[.int .i64 n1, .int .i64 n2, .int .i64 n3, .int .i64 n4, .int .i64 n5', .bool y]), (.slice (some ⟨w2.heap.size, 0, none⟩) 1 1)] [(.pointer (some ⟨Q, 4, none⟩)), undef] v v' j hj⟩
                clear hJ
                refine region_facts_down J (by kernel_rfl) (by kernel_rfl) ?_ ?_ ?_
                · exact (HJ.out _ _ _).2 ⟨held AC _, undef, held_len _ _, (putAll_held _ _).symm, Got.init (by rw [held_len, hVS]; rfl), Ph.start (by decide) (by decide) (by decide) _⟩
                · intro i oo L' a w' ho hsz hLi haft hdn hJ1 K' hK
                  obtain ⟨us, v, hl, rfl, hG, hP⟩ := (HJ.out _ _ _).1 hJ1
                  have hi := (Array.getElem?_eq_some_iff.1 ho).1
                  clear hJ1
                  obtain ⟨u0, us0, rfl, hl0⟩ := cons_of hl
                  obtain ⟨u1, us1, rfl, hl1⟩ := cons_of hl0
                  obtain ⟨u2, us2, rfl, hl2⟩ := cons_of hl1
                  obtain ⟨u3, us3, rfl, hl3⟩ := cons_of hl2
                  obtain ⟨u4, us4, rfl, hl4⟩ := cons_of hl3
                  obtain ⟨u5, us5, rfl, hl5⟩ := cons_of hl4
                  obtain ⟨u6, us6, rfl, hl6⟩ := cons_of hl5
                  obtain ⟨u7, us7, rfl, hl7⟩ := cons_of hl6
                  obtain ⟨u8, us8, rfl, hl8⟩ := cons_of hl7
                  obtain ⟨u9, us9, rfl, hl9⟩ := cons_of hl8
                  obtain ⟨u10, us10, rfl, hl10⟩ := cons_of hl9
                  obtain ⟨u11, us11, rfl, hl11⟩ := cons_of hl10
                  obtain ⟨u12, us12, rfl, hl12⟩ := cons_of hl11
                  obtain ⟨u13, us13, rfl, hl13⟩ := cons_of hl12
                  obtain ⟨u14, us14, rfl, hl14⟩ := cons_of hl13
                  obtain ⟨u15, us15, rfl, hl15⟩ := cons_of hl14
                  obtain ⟨u16, us16, rfl, hl16⟩ := cons_of hl15
                  obtain ⟨u17, us17, rfl, hl17⟩ := cons_of hl16
                  obtain ⟨u18, us18, rfl, hl18⟩ := cons_of hl17
                  obtain ⟨u19, us19, rfl, hl19⟩ := cons_of hl18
                  obtain ⟨u20, us20, rfl, hl20⟩ := cons_of hl19
                  obtain ⟨u21, us21, rfl, hl21⟩ := cons_of hl20
                  obtain ⟨u22, us22, rfl, hl22⟩ := cons_of hl21
                  obtain ⟨u23, us23, rfl, hl23⟩ := cons_of hl22
                  obtain ⟨u24, us24, rfl, hl24⟩ := cons_of hl23
                  obtain ⟨u25, us25, rfl, hl25⟩ := cons_of hl24
                  obtain rfl := List.length_eq_zero_iff.1 hl25
                  clear hl0 hl1 hl2 hl3 hl4 hl5 hl6 hl7 hl8 hl9 hl10 hl11 hl12 hl13 hl14 hl15 hl16 hl17 hl18 hl19 hl20 hl21 hl22 hl23 hl24 hl25
                  have HG := Aside.mk hG
                  have HP := Aside.mk hP
                  clear hG hP hl
                  subst hA hVS
                  rcases i with _ | i
                  · simp only [List.getElem?_toArray, List.getElem?_cons_succ, List.getElem?_cons_zero, Option.some.injEq] at ho
                    subst ho
                    have HP2 := Aside.mk (HP.out.other 0 (by decide) (by decide) (by decide))
                    have HG2 := Aside.mk (HG.out.set 0 (v := (.pointer (some ⟨Q, 4, none⟩))) rfl)
                    have HK := Aside.mk hK
                    clear hK haft hsz hi hLi hdn HP HG
                    rw [if_pos (by rfl)]
                    simp only [putAll, Act.put, List.setIfInBounds_toArray, List.set_cons_zero, List.set_cons_succ]
                    go_simp
                    refine HK.out _ _ ((HJ.out _ _ _).2 ⟨[(.pointer (some ⟨Q, 4, none⟩)), u1, u2, u3, u4, u5, u6, u7, u8, u9, u10, u11, u12, u13, u14, u15, u16, u17, u18, u19, u20, u21, u22, u23, u24, u25], v, rfl, ?_, HG2.out, HP2.out⟩)
                    simp only [putAll, Act.put, List.setIfInBounds_toArray, List.set_cons_zero, List.set_cons_succ]
                  rcases i with _ | i
                  · simp only [List.getElem?_toArray, List.getElem?_cons_succ, List.getElem?_cons_zero, Option.some.injEq] at ho
                    subst ho
                    obtain rfl := HG.out.at_ 0 (haft { on := 0, ground := .data } (by simp) rfl) rfl rfl
                    have hw := HP.out.early (hdn.no hLi (by kernel_rfl))
                    have hc : w'.cell? ⟨Q, 4, none⟩ = some (.slice AO rs.length cO) := by rcases hw with rfl | rfl; exact C2.out.1; exact C2.out.2
                    clear hw
                    have HP2 := Aside.mk (HP.out.other 1 (by decide) (by decide) (by decide))
                    have HG2 := Aside.mk (HG.out.set 1 (v := (.slice AO rs.length cO)) rfl)
                    have HK := Aside.mk hK
                    clear hK haft hsz hi hLi hdn HP HG
                    rw [if_pos (by rfl)]
                    simp only [putAll, Act.put, List.setIfInBounds_toArray, List.set_cons_zero, List.set_cons_succ]
                    go_simp
                    refine HK.out _ _ ((HJ.out _ _ _).2 ⟨[(.pointer (some ⟨Q, 4, none⟩)), (.slice AO rs.length cO), u2, u3, u4, u5, u6, u7, u8, u9, u10, u11, u12, u13, u14, u15, u16, u17, u18, u19, u20, u21, u22, u23, u24, u25], v, rfl, ?_, HG2.out, HP2.out⟩)
                    simp only [putAll, Act.put, List.setIfInBounds_toArray, List.set_cons_zero, List.set_cons_succ]
                  rcases i with _ | i
                  · simp only [List.getElem?_toArray, List.getElem?_cons_succ, List.getElem?_cons_zero, Option.some.injEq] at ho
                    subst ho
                    have HP2 := Aside.mk (HP.out.other 2 (by decide) (by decide) (by decide))
                    have HG2 := Aside.mk (HG.out.set 2 (v := (.slice (some an) 5 cN)) rfl)
                    have HK := Aside.mk hK
                    clear hK haft hsz hi hLi hdn HP HG
                    rw [if_pos (by rfl)]
                    simp only [putAll, Act.put, List.setIfInBounds_toArray, List.set_cons_zero, List.set_cons_succ]
                    go_simp
                    refine HK.out _ _ ((HJ.out _ _ _).2 ⟨[u0, u1, (.slice (some an) 5 cN), u3, u4, u5, u6, u7, u8, u9, u10, u11, u12, u13, u14, u15, u16, u17, u18, u19, u20, u21, u22, u23, u24, u25], v, rfl, ?_, HG2.out, HP2.out⟩)
                    simp only [putAll, Act.put, List.setIfInBounds_toArray, List.set_cons_zero, List.set_cons_succ]
                  rcases i with _ | i
                  · simp only [List.getElem?_toArray, List.getElem?_cons_succ, List.getElem?_cons_zero, Option.some.injEq] at ho
                    subst ho
                    obtain rfl := HG.out.at_ 2 (haft { on := 2, ground := .data } (by simp) rfl) rfl rfl
                    have HP2 := Aside.mk (HP.out.other 3 (by decide) (by decide) (by decide))
                    have HG2 := Aside.mk (HG.out.set 3 (v := (.pointer (some an))) rfl)
                    have HK := Aside.mk hK
                    clear hK haft hsz hi hLi hdn HP HG
                    rw [if_pos (by rfl)]
                    simp only [putAll, Act.put, List.setIfInBounds_toArray, List.set_cons_zero, List.set_cons_succ]
                    go_simp
                    refine HK.out _ _ ((HJ.out _ _ _).2 ⟨[u0, u1, (.slice (some an) 5 cN), (.pointer (some an)), u4, u5, u6, u7, u8, u9, u10, u11, u12, u13, u14, u15, u16, u17, u18, u19, u20, u21, u22, u23, u24, u25], v, rfl, ?_, HG2.out, HP2.out⟩)
                    simp only [putAll, Act.put, List.setIfInBounds_toArray, List.set_cons_zero, List.set_cons_succ]
                  rcases i with _ | i
                  · simp only [List.getElem?_toArray, List.getElem?_cons_succ, List.getElem?_cons_zero, Option.some.injEq] at ho
                    subst ho
                    obtain rfl := HG.out.at_ 3 (haft { on := 3, ground := .data } (by simp) rfl) rfl rfl
                    obtain rfl := HP.out.first (hdn.no hLi (by kernel_rfl))
                    have hc : w2.drew.cell? an = some (.int .i64 n1) := ZZ.out.1
                    have HP2 := Aside.mk (HP.out.other 4 (by decide) (by decide) (by decide))
                    have HG2 := Aside.mk (HG.out.set 4 (v := (.int .i64 n1)) rfl)
                    have HK := Aside.mk hK
                    clear hK haft hsz hi hLi hdn HP HG
                    rw [if_pos (by rfl)]
                    simp only [putAll, Act.put, List.setIfInBounds_toArray, List.set_cons_zero, List.set_cons_succ]
                    go_simp
                    refine HK.out _ _ ((HJ.out _ _ _).2 ⟨[u0, u1, u2, (.pointer (some an)), (.int .i64 n1), u5, u6, u7, u8, u9, u10, u11, u12, u13, u14, u15, u16, u17, u18, u19, u20, u21, u22, u23, u24, u25], v, rfl, ?_, HG2.out, HP2.out⟩)
                    simp only [putAll, Act.put, List.setIfInBounds_toArray, List.set_cons_zero, List.set_cons_succ]
                  rcases i with _ | i
                  · simp only [List.getElem?_toArray, List.getElem?_cons_succ, List.getElem?_cons_zero, Option.some.injEq] at ho
                    subst ho
                    have HP2 := Aside.mk (HP.out.other 5 (by decide) (by decide) (by decide))
                    have HG2 := Aside.mk (HG.out.set 5 (v := (.slice (some an) 5 cN)) rfl)
                    have HK := Aside.mk hK
                    clear hK haft hsz hi hLi hdn HP HG
                    rw [if_pos (by rfl)]
                    simp only [putAll, Act.put, List.setIfInBounds_toArray, List.set_cons_zero, List.set_cons_succ]
                    go_simp
                    refine HK.out _ _ ((HJ.out _ _ _).2 ⟨[u0, u1, u2, u3, u4, (.slice (some an) 5 cN), u6, u7, u8, u9, u10, u11, u12, u13, u14, u15, u16, u17, u18, u19, u20, u21, u22, u23, u24, u25], v, rfl, ?_, HG2.out, HP2.out⟩)
                    simp only [putAll, Act.put, List.setIfInBounds_toArray, List.set_cons_zero, List.set_cons_succ]
                  rcases i with _ | i
                  · simp only [List.getElem?_toArray, List.getElem?_cons_succ, List.getElem?_cons_zero, Option.some.injEq] at ho
                    subst ho
                    obtain rfl := HG.out.at_ 5 (haft { on := 5, ground := .data } (by simp) rfl) rfl rfl
                    have HP2 := Aside.mk (HP.out.other 6 (by decide) (by decide) (by decide))
                    have HG2 := Aside.mk (HG.out.set 6 (v := (.pointer (some ⟨an.block, an.off + 1, none⟩))) rfl)
                    have HK := Aside.mk hK
                    clear hK haft hsz hi hLi hdn HP HG
                    rw [if_pos (by rfl)]
                    simp only [putAll, Act.put, List.setIfInBounds_toArray, List.set_cons_zero, List.set_cons_succ]
                    go_simp
                    refine HK.out _ _ ((HJ.out _ _ _).2 ⟨[u0, u1, u2, u3, u4, (.slice (some an) 5 cN), (.pointer (some ⟨an.block, an.off + 1, none⟩)), u7, u8, u9, u10, u11, u12, u13, u14, u15, u16, u17, u18, u19, u20, u21, u22, u23, u24, u25], v, rfl, ?_, HG2.out, HP2.out⟩)
                    simp only [putAll, Act.put, List.setIfInBounds_toArray, List.set_cons_zero, List.set_cons_succ]
                  rcases i with _ | i
                  · simp only [List.getElem?_toArray, List.getElem?_cons_succ, List.getElem?_cons_zero, Option.some.injEq] at ho
                    subst ho
                    obtain rfl := HG.out.at_ 6 (haft { on := 6, ground := .data } (by simp) rfl) rfl rfl
                    obtain rfl := HP.out.first (hdn.no hLi (by kernel_rfl))
                    have hc : w2.drew.cell? ⟨an.block, an.off + 1, none⟩ = some (.int .i64 n2) := ZZ.out.2.1
                    have HP2 := Aside.mk (HP.out.other 7 (by decide) (by decide) (by decide))
                    have HG2 := Aside.mk (HG.out.set 7 (v := (.int .i64 n2)) rfl)
                    have HK := Aside.mk hK
                    clear hK haft hsz hi hLi hdn HP HG
                    rw [if_pos (by rfl)]
                    simp only [putAll, Act.put, List.setIfInBounds_toArray, List.set_cons_zero, List.set_cons_succ]
                    go_simp
                    refine HK.out _ _ ((HJ.out _ _ _).2 ⟨[u0, u1, u2, u3, u4, u5, (.pointer (some ⟨an.block, an.off + 1, none⟩)), (.int .i64 n2), u8, u9, u10, u11, u12, u13, u14, u15, u16, u17, u18, u19, u20, u21, u22, u23, u24, u25], v, rfl, ?_, HG2.out, HP2.out⟩)
                    simp only [putAll, Act.put, List.setIfInBounds_toArray, List.set_cons_zero, List.set_cons_succ]
                  rcases i with _ | i
                  · simp only [List.getElem?_toArray, List.getElem?_cons_succ, List.getElem?_cons_zero, Option.some.injEq] at ho
                    subst ho
                    have HP2 := Aside.mk (HP.out.other 8 (by decide) (by decide) (by decide))
                    have HG2 := Aside.mk (HG.out.set 8 (v := (.slice (some an) 5 cN)) rfl)
                    have HK := Aside.mk hK
                    clear hK haft hsz hi hLi hdn HP HG
                    rw [if_pos (by rfl)]
                    simp only [putAll, Act.put, List.setIfInBounds_toArray, List.set_cons_zero, List.set_cons_succ]
                    go_simp
                    refine HK.out _ _ ((HJ.out _ _ _).2 ⟨[u0, u1, u2, u3, u4, u5, u6, u7, (.slice (some an) 5 cN), u9, u10, u11, u12, u13, u14, u15, u16, u17, u18, u19, u20, u21, u22, u23, u24, u25], v, rfl, ?_, HG2.out, HP2.out⟩)
                    simp only [putAll, Act.put, List.setIfInBounds_toArray, List.set_cons_zero, List.set_cons_succ]
                  rcases i with _ | i
                  · simp only [List.getElem?_toArray, List.getElem?_cons_succ, List.getElem?_cons_zero, Option.some.injEq] at ho
                    subst ho
                    obtain rfl := HG.out.at_ 8 (haft { on := 8, ground := .data } (by simp) rfl) rfl rfl
                    have HP2 := Aside.mk (HP.out.other 9 (by decide) (by decide) (by decide))
                    have HG2 := Aside.mk (HG.out.set 9 (v := (.pointer (some ⟨an.block, an.off + 2, none⟩))) rfl)
                    have HK := Aside.mk hK
                    clear hK haft hsz hi hLi hdn HP HG
                    rw [if_pos (by rfl)]
                    simp only [putAll, Act.put, List.setIfInBounds_toArray, List.set_cons_zero, List.set_cons_succ]
                    go_simp
                    refine HK.out _ _ ((HJ.out _ _ _).2 ⟨[u0, u1, u2, u3, u4, u5, u6, u7, (.slice (some an) 5 cN), (.pointer (some ⟨an.block, an.off + 2, none⟩)), u10, u11, u12, u13, u14, u15, u16, u17, u18, u19, u20, u21, u22, u23, u24, u25], v, rfl, ?_, HG2.out, HP2.out⟩)
                    simp only [putAll, Act.put, List.setIfInBounds_toArray, List.set_cons_zero, List.set_cons_succ]
                  rcases i with _ | i
                  · simp only [List.getElem?_toArray, List.getElem?_cons_succ, List.getElem?_cons_zero, Option.some.injEq] at ho
                    subst ho
                    obtain rfl := HG.out.at_ 9 (haft { on := 9, ground := .data } (by simp) rfl) rfl rfl
                    obtain rfl := HP.out.first (hdn.no hLi (by kernel_rfl))
                    have hc : w2.drew.cell? ⟨an.block, an.off + 2, none⟩ = some (.int .i64 n3) := ZZ.out.2.2.1
                    have HP2 := Aside.mk (HP.out.other 10 (by decide) (by decide) (by decide))
                    have HG2 := Aside.mk (HG.out.set 10 (v := (.int .i64 n3)) rfl)
                    have HK := Aside.mk hK
                    clear hK haft hsz hi hLi hdn HP HG
                    rw [if_pos (by rfl)]
                    simp only [putAll, Act.put, List.setIfInBounds_toArray, List.set_cons_zero, List.set_cons_succ]
                    go_simp
                    refine HK.out _ _ ((HJ.out _ _ _).2 ⟨[u0, u1, u2, u3, u4, u5, u6, u7, u8, (.pointer (some ⟨an.block, an.off + 2, none⟩)), (.int .i64 n3), u11, u12, u13, u14, u15, u16, u17, u18, u19, u20, u21, u22, u23, u24, u25], v, rfl, ?_, HG2.out, HP2.out⟩)
                    simp only [putAll, Act.put, List.setIfInBounds_toArray, List.set_cons_zero, List.set_cons_succ]
                  rcases i with _ | i
                  · simp only [List.getElem?_toArray, List.getElem?_cons_succ, List.getElem?_cons_zero, Option.some.injEq] at ho
                    subst ho
                    have HP2 := Aside.mk (HP.out.other 11 (by decide) (by decide) (by decide))
                    have HG2 := Aside.mk (HG.out.set 11 (v := (.slice (some an) 5 cN)) rfl)
                    have HK := Aside.mk hK
                    clear hK haft hsz hi hLi hdn HP HG
                    rw [if_pos (by rfl)]
                    simp only [putAll, Act.put, List.setIfInBounds_toArray, List.set_cons_zero, List.set_cons_succ]
                    go_simp
                    refine HK.out _ _ ((HJ.out _ _ _).2 ⟨[u0, u1, u2, u3, u4, u5, u6, u7, u8, u9, u10, (.slice (some an) 5 cN), u12, u13, u14, u15, u16, u17, u18, u19, u20, u21, u22, u23, u24, u25], v, rfl, ?_, HG2.out, HP2.out⟩)
                    simp only [putAll, Act.put, List.setIfInBounds_toArray, List.set_cons_zero, List.set_cons_succ]
                  rcases i with _ | i
                  · simp only [List.getElem?_toArray, List.getElem?_cons_succ, List.getElem?_cons_zero, Option.some.injEq] at ho
                    subst ho
                    obtain rfl := HG.out.at_ 11 (haft { on := 11, ground := .data } (by simp) rfl) rfl rfl
                    have HP2 := Aside.mk (HP.out.other 12 (by decide) (by decide) (by decide))
                    have HG2 := Aside.mk (HG.out.set 12 (v := (.pointer (some ⟨an.block, an.off + 3, none⟩))) rfl)
                    have HK := Aside.mk hK
                    clear hK haft hsz hi hLi hdn HP HG
                    rw [if_pos (by rfl)]
                    simp only [putAll, Act.put, List.setIfInBounds_toArray, List.set_cons_zero, List.set_cons_succ]
                    go_simp
                    refine HK.out _ _ ((HJ.out _ _ _).2 ⟨[u0, u1, u2, u3, u4, u5, u6, u7, u8, u9, u10, (.slice (some an) 5 cN), (.pointer (some ⟨an.block, an.off + 3, none⟩)), u13, u14, u15, u16, u17, u18, u19, u20, u21, u22, u23, u24, u25], v, rfl, ?_, HG2.out, HP2.out⟩)
                    simp only [putAll, Act.put, List.setIfInBounds_toArray, List.set_cons_zero, List.set_cons_succ]
                  rcases i with _ | i
                  · simp only [List.getElem?_toArray, List.getElem?_cons_succ, List.getElem?_cons_zero, Option.some.injEq] at ho
                    subst ho
                    obtain rfl := HG.out.at_ 12 (haft { on := 12, ground := .data } (by simp) rfl) rfl rfl
                    obtain rfl := HP.out.first (hdn.no hLi (by kernel_rfl))
                    have hc : w2.drew.cell? ⟨an.block, an.off + 3, none⟩ = some (.int .i64 n4) := ZZ.out.2.2.2.1
                    have HP2 := Aside.mk (HP.out.other 13 (by decide) (by decide) (by decide))
                    have HG2 := Aside.mk (HG.out.set 13 (v := (.int .i64 n4)) rfl)
                    have HK := Aside.mk hK
                    clear hK haft hsz hi hLi hdn HP HG
                    rw [if_pos (by rfl)]
                    simp only [putAll, Act.put, List.setIfInBounds_toArray, List.set_cons_zero, List.set_cons_succ]
                    go_simp
                    refine HK.out _ _ ((HJ.out _ _ _).2 ⟨[u0, u1, u2, u3, u4, u5, u6, u7, u8, u9, u10, u11, (.pointer (some ⟨an.block, an.off + 3, none⟩)), (.int .i64 n4), u14, u15, u16, u17, u18, u19, u20, u21, u22, u23, u24, u25], v, rfl, ?_, HG2.out, HP2.out⟩)
                    simp only [putAll, Act.put, List.setIfInBounds_toArray, List.set_cons_zero, List.set_cons_succ]
                  rcases i with _ | i
                  · simp only [List.getElem?_toArray, List.getElem?_cons_succ, List.getElem?_cons_zero, Option.some.injEq] at ho
                    subst ho
                    have HP2 := Aside.mk (HP.out.other 14 (by decide) (by decide) (by decide))
                    have HG2 := Aside.mk (HG.out.set 14 (v := (.slice (some an) 5 cN)) rfl)
                    have HK := Aside.mk hK
                    clear hK haft hsz hi hLi hdn HP HG
                    rw [if_pos (by rfl)]
                    simp only [putAll, Act.put, List.setIfInBounds_toArray, List.set_cons_zero, List.set_cons_succ]
                    go_simp
                    refine HK.out _ _ ((HJ.out _ _ _).2 ⟨[u0, u1, u2, u3, u4, u5, u6, u7, u8, u9, u10, u11, u12, u13, (.slice (some an) 5 cN), u15, u16, u17, u18, u19, u20, u21, u22, u23, u24, u25], v, rfl, ?_, HG2.out, HP2.out⟩)
                    simp only [putAll, Act.put, List.setIfInBounds_toArray, List.set_cons_zero, List.set_cons_succ]
                  rcases i with _ | i
                  · simp only [List.getElem?_toArray, List.getElem?_cons_succ, List.getElem?_cons_zero, Option.some.injEq] at ho
                    subst ho
                    obtain rfl := HG.out.at_ 14 (haft { on := 14, ground := .data } (by simp) rfl) rfl rfl
                    have HP2 := Aside.mk (HP.out.other 15 (by decide) (by decide) (by decide))
                    have HG2 := Aside.mk (HG.out.set 15 (v := (.pointer (some ⟨an.block, an.off + 4, none⟩))) rfl)
                    have HK := Aside.mk hK
                    clear hK haft hsz hi hLi hdn HP HG
                    rw [if_pos (by rfl)]
                    simp only [putAll, Act.put, List.setIfInBounds_toArray, List.set_cons_zero, List.set_cons_succ]
                    go_simp
                    refine HK.out _ _ ((HJ.out _ _ _).2 ⟨[u0, u1, u2, u3, u4, u5, u6, u7, u8, u9, u10, u11, u12, u13, (.slice (some an) 5 cN), (.pointer (some ⟨an.block, an.off + 4, none⟩)), u16, u17, u18, u19, u20, u21, u22, u23, u24, u25], v, rfl, ?_, HG2.out, HP2.out⟩)
                    simp only [putAll, Act.put, List.setIfInBounds_toArray, List.set_cons_zero, List.set_cons_succ]
                  rcases i with _ | i
                  · simp only [List.getElem?_toArray, List.getElem?_cons_succ, List.getElem?_cons_zero, Option.some.injEq] at ho
                    subst ho
                    obtain rfl := HG.out.at_ 15 (haft { on := 15, ground := .data } (by simp) rfl) rfl rfl
                    obtain rfl := HP.out.first (hdn.no hLi (by kernel_rfl))
                    have hc : w2.drew.cell? ⟨an.block, an.off + 4, none⟩ = some (.int .i64 n5') := ZZ.out.2.2.2.2.1
                    have HP2 := Aside.mk (HP.out.other 16 (by decide) (by decide) (by decide))
                    have HG2 := Aside.mk (HG.out.set 16 (v := (.int .i64 n5')) rfl)
                    have HK := Aside.mk hK
                    clear hK haft hsz hi hLi hdn HP HG
                    rw [if_pos (by rfl)]
                    simp only [putAll, Act.put, List.setIfInBounds_toArray, List.set_cons_zero, List.set_cons_succ]
                    go_simp
                    refine HK.out _ _ ((HJ.out _ _ _).2 ⟨[u0, u1, u2, u3, u4, u5, u6, u7, u8, u9, u10, u11, u12, u13, u14, (.pointer (some ⟨an.block, an.off + 4, none⟩)), (.int .i64 n5'), u17, u18, u19, u20, u21, u22, u23, u24, u25], v, rfl, ?_, HG2.out, HP2.out⟩)
                    simp only [putAll, Act.put, List.setIfInBounds_toArray, List.set_cons_zero, List.set_cons_succ]
                  rcases i with _ | i
                  · simp only [List.getElem?_toArray, List.getElem?_cons_succ, List.getElem?_cons_zero, Option.some.injEq] at ho
                    subst ho
                    have HP2 := Aside.mk (HP.out.other 17 (by decide) (by decide) (by decide))
                    have HG2 := Aside.mk (HG.out.set 17 (v := (.slice (some ad) L c)) rfl)
                    have HK := Aside.mk hK
                    clear hK haft hsz hi hLi hdn HP HG
                    rw [if_pos (by rfl)]
                    simp only [putAll, Act.put, List.setIfInBounds_toArray, List.set_cons_zero, List.set_cons_succ]
                    go_simp
                    refine HK.out _ _ ((HJ.out _ _ _).2 ⟨[u0, u1, u2, u3, u4, u5, u6, u7, u8, u9, u10, u11, u12, u13, u14, u15, u16, (.slice (some ad) L c), u18, u19, u20, u21, u22, u23, u24, u25], v, rfl, ?_, HG2.out, HP2.out⟩)
                    simp only [putAll, Act.put, List.setIfInBounds_toArray, List.set_cons_zero, List.set_cons_succ]
                  rcases i with _ | i
                  · simp only [List.getElem?_toArray, List.getElem?_cons_succ, List.getElem?_cons_zero, Option.some.injEq] at ho
                    subst ho
                    obtain rfl := HG.out.at_ 17 (haft { on := 17, ground := .data } (by simp) rfl) rfl rfl
                    have n5 := N5.out.1
                    have i5 := N5.out.2
                    have HP2 := Aside.mk (HP.out.other 18 (by decide) (by decide) (by decide))
                    have HG2 := Aside.mk (HG.out.set 18 (v := (.pointer (some ⟨ad.block, ad.off + 5, none⟩))) rfl)
                    have HK := Aside.mk hK
                    clear hK haft hsz hi hLi hdn HP HG
                    rw [if_pos (by rfl)]
                    simp only [putAll, Act.put, List.setIfInBounds_toArray, List.set_cons_zero, List.set_cons_succ]
                    go_simp
                    refine HK.out _ _ ((HJ.out _ _ _).2 ⟨[u0, u1, u2, u3, u4, u5, u6, u7, u8, u9, u10, u11, u12, u13, u14, u15, u16, (.slice (some ad) L c), (.pointer (some ⟨ad.block, ad.off + 5, none⟩)), u19, u20, u21, u22, u23, u24, u25], v, rfl, ?_, HG2.out, HP2.out⟩)
                    simp only [putAll, Act.put, List.setIfInBounds_toArray, List.set_cons_zero, List.set_cons_succ]
                  rcases i with _ | i
                  · simp only [List.getElem?_toArray, List.getElem?_cons_succ, List.getElem?_cons_zero, Option.some.injEq] at ho
                    subst ho
                    obtain rfl := HG.out.at_ 18 (haft { on := 18, ground := .data } (by simp) rfl) rfl rfl
                    obtain rfl := HP.out.first (hdn.no hLi (by kernel_rfl))
                    have hc : w2.drew.cell? ⟨ad.block, ad.off + 5, none⟩ = some (.string g) := ZZ.out.2.2.2.2.2
                    have HP2 := Aside.mk (HP.out.other 19 (by decide) (by decide) (by decide))
                    have HG2 := Aside.mk (HG.out.set 19 (v := (.string g)) rfl)
                    have HK := Aside.mk hK
                    clear hK haft hsz hi hLi hdn HP HG
                    rw [if_pos (by rfl)]
                    simp only [putAll, Act.put, List.setIfInBounds_toArray, List.set_cons_zero, List.set_cons_succ]
                    go_simp
                    refine HK.out _ _ ((HJ.out _ _ _).2 ⟨[u0, u1, u2, u3, u4, u5, u6, u7, u8, u9, u10, u11, u12, u13, u14, u15, u16, u17, (.pointer (some ⟨ad.block, ad.off + 5, none⟩)), (.string g), u20, u21, u22, u23, u24, u25], v, rfl, ?_, HG2.out, HP2.out⟩)
                    simp only [putAll, Act.put, List.setIfInBounds_toArray, List.set_cons_zero, List.set_cons_succ]
                  rcases i with _ | i
                  · simp only [List.getElem?_toArray, List.getElem?_cons_succ, List.getElem?_cons_zero, Option.some.injEq] at ho
                    subst ho
                    obtain rfl := HG.out.at_ 19 (haft { on := 19, ground := .data } (by simp) rfl) rfl rfl
                    have gy := GY.out
                    have HP2 := Aside.mk (HP.out.other 20 (by decide) (by decide) (by decide))
                    have HG2 := Aside.mk (HG.out.set 20 (v := (.bool y)) rfl)
                    have HK := Aside.mk hK
                    clear hK haft hsz hi hLi hdn HP HG
                    rw [if_pos (by rfl)]
                    simp only [putAll, Act.put, List.setIfInBounds_toArray, List.set_cons_zero, List.set_cons_succ]
                    go_simp
                    refine HK.out _ _ ((HJ.out _ _ _).2 ⟨[u0, u1, u2, u3, u4, u5, u6, u7, u8, u9, u10, u11, u12, u13, u14, u15, u16, u17, u18, (.string g), (.bool y), u21, u22, u23, u24, u25], v, rfl, ?_, HG2.out, HP2.out⟩)
                    simp only [putAll, Act.put, List.setIfInBounds_toArray, List.set_cons_zero, List.set_cons_succ]
                  rcases i with _ | i
                  · simp only [List.getElem?_toArray, List.getElem?_cons_succ, List.getElem?_cons_zero, Option.some.injEq] at ho
                    subst ho
                    obtain rfl := HG.out.at_ 4 (haft { on := 4, ground := .data } (by simp) rfl) rfl rfl
                    obtain rfl := HG.out.at_ 7 (haft { on := 7, ground := .data } (by simp) rfl) rfl rfl
                    obtain rfl := HG.out.at_ 10 (haft { on := 10, ground := .data } (by simp) rfl) rfl rfl
                    obtain rfl := HG.out.at_ 13 (haft { on := 13, ground := .data } (by simp) rfl) rfl rfl
                    obtain rfl := HG.out.at_ 16 (haft { on := 16, ground := .data } (by simp) rfl) rfl rfl
                    obtain rfl := HG.out.at_ 20 (haft { on := 20, ground := .data } (by simp) rfl) rfl rfl
                    have HP2 := Aside.mk (HP.out.other 21 (by decide) (by decide) (by decide))
                    have HG2 := Aside.mk (HG.out.set 21 (v := (.agg #[.int .i64 n1, .int .i64 n2, .int .i64 n3, .int .i64 n4, .int .i64 n5', .bool y])) rfl)
                    have HK := Aside.mk hK
                    clear hK haft hsz hi hLi hdn HP HG
                    rw [if_pos (by rfl)]
                    simp only [putAll, Act.put, List.setIfInBounds_toArray, List.set_cons_zero, List.set_cons_succ]
                    go_simp
                    refine HK.out _ _ ((HJ.out _ _ _).2 ⟨[u0, u1, u2, u3, (.int .i64 n1), u5, u6, (.int .i64 n2), u8, u9, (.int .i64 n3), u11, u12, (.int .i64 n4), u14, u15, (.int .i64 n5'), u17, u18, u19, (.bool y), (.agg #[.int .i64 n1, .int .i64 n2, .int .i64 n3, .int .i64 n4, .int .i64 n5', .bool y]), u22, u23, u24, u25], v, rfl, ?_, HG2.out, HP2.out⟩)
                    simp only [putAll, Act.put, List.setIfInBounds_toArray, List.set_cons_zero, List.set_cons_succ]
                  rcases i with _ | i
                  · simp only [List.getElem?_toArray, List.getElem?_cons_succ, List.getElem?_cons_zero, Option.some.injEq] at ho
                    subst ho
                    obtain rfl := HG.out.at_ 21 (haft { on := 21, ground := .data } (by simp) rfl) rfl rfl
                    have hm := HP.out.make (by rw [hsz]; exact hi) (by decide) (by decide) hLi
                    obtain rfl := hm.1
                    have HP2 := Aside.mk hm.2
                    have HG2 := Aside.mk (HG.out.set 22 (v := (.slice (some ⟨w2.heap.size, 0, none⟩) 1 1)) rfl)
                    have HK := Aside.mk hK
                    clear hK haft hsz hi hLi hdn HP HG hm
                    rw [if_pos (by rfl)]
                    simp only [putAll, Act.put, List.setIfInBounds_toArray, List.set_cons_zero, List.set_cons_succ]
                    go_simp
                    refine HK.out _ _ ((HJ.out _ _ _).2 ⟨[u0, u1, u2, u3, u4, u5, u6, u7, u8, u9, u10, u11, u12, u13, u14, u15, u16, u17, u18, u19, u20, (.agg #[.int .i64 n1, .int .i64 n2, .int .i64 n3, .int .i64 n4, .int .i64 n5', .bool y]), (.slice (some ⟨w2.heap.size, 0, none⟩) 1 1), u23, u24, u25], v, rfl, ?_, HG2.out, HP2.out⟩)
                    simp only [putAll, Act.put, List.setIfInBounds_toArray, List.set_cons_zero, List.set_cons_succ]
                  rcases i with _ | i
                  · simp only [List.getElem?_toArray, List.getElem?_cons_succ, List.getElem?_cons_zero, Option.some.injEq] at ho
                    subst ho
                    obtain rfl := HG.out.at_ 1 (haft { on := 1, ground := .data } (by simp) rfl) rfl rfl
                    obtain rfl := HG.out.at_ 22 (haft { on := 22, ground := .data } (by simp) rfl) rfl rfl
                    have hm := HP.out.grow (by rw [hsz]; exact hi) (by decide) (by decide) (haft { on := 22, ground := .data } (by simp) rfl) hLi
                    obtain rfl := hm.1
                    have HP2 := Aside.mk hm.2
                    have HG2 := Aside.mk fun v1 => (HG.out.swap (HVL.out v1 v) 23 (by rw [hLi]; simp) (HVS.out v1 v)).set 23 (v := v1) rfl
                    have HK := Aside.mk hK
                    clear hK haft hsz hi hLi hdn HP HG hm
                    rw [if_pos (by rfl)]
                    simp only [putAll, Act.put, List.setIfInBounds_toArray, List.set_cons_zero, List.set_cons_succ]
                    refine wp_one (w0 := w2.drew.alloc (.cells #[.int .i64 n1, .int .i64 n2, .int .i64 n3, .int .i64 n4, .int .i64 n5', .bool y] 89)) rulR (Q + 1) (.tmp 50) (.tmp 71) 32 89 _ 48 rfl Tryz.underlying32 infoRl (by rfl) (by decide) (by decide) (.slice AO rs.length cO) rs ⟨n1, n2, n3, n4, n5', y⟩ [.int .i64 n1, .int .i64 n2, .int .i64 n3, .int .i64 n4, .int .i64 n5', .bool y] (fun _ => False) w2.heap.size 1 (by rfl) (by rfl) (blk_new w2.drew _ _) (rulK.2 rfl) HLA.out.own (Below.refl _ _) HLA.out.le HLN.out ?_
                    intro v1 w8 HO1 HB1 hg hat
                    have HPOST : (fun (v : Value) (w : World) => rulR.Own 89 w (Q + 1) (fun _ => False) v (rs ++ [⟨n1, n2, n3, n4, n5', y⟩]) ∧ (w2.drew.alloc (.cells #[.int .i64 n1, .int .i64 n2, .int .i64 n3, .int .i64 n4, .int .i64 n5', .bool y] 89)).grownBy w (Value.slice AO rs.length cO).ownBlock) v1 w8 := ⟨HO1, hg⟩
                    clear HO1 HB1 hg hat
                    refine HK.out _ _ ((HJ.out _ _ _).2 ⟨[u0, (.slice AO rs.length cO), u2, u3, u4, u5, u6, u7, u8, u9, u10, u11, u12, u13, u14, u15, u16, u17, u18, u19, u20, u21, (.slice (some ⟨w2.heap.size, 0, none⟩) 1 1), v1, u24, u25], v1, rfl, ?_, HG2.out v1, HP2.out v1 _ HPOST⟩)
                    simp only [putAll, Act.put, List.setIfInBounds_toArray, List.set_cons_zero, List.set_cons_succ]
                  rcases i with _ | i
                  · simp only [List.getElem?_toArray, List.getElem?_cons_succ, List.getElem?_cons_zero, Option.some.injEq] at ho
                    subst ho
                    have HP2 := Aside.mk (HP.out.other 24 (by decide) (by decide) (by decide))
                    have HG2 := Aside.mk (HG.out.set 24 (v := (.pointer (some ⟨Q, 4, none⟩))) rfl)
                    have HK := Aside.mk hK
                    clear hK haft hsz hi hLi hdn HP HG
                    rw [if_pos (by rfl)]
                    simp only [putAll, Act.put, List.setIfInBounds_toArray, List.set_cons_zero, List.set_cons_succ]
                    go_simp
                    refine HK.out _ _ ((HJ.out _ _ _).2 ⟨[u0, u1, u2, u3, u4, u5, u6, u7, u8, u9, u10, u11, u12, u13, u14, u15, u16, u17, u18, u19, u20, u21, u22, u23, (.pointer (some ⟨Q, 4, none⟩)), u25], v, rfl, ?_, HG2.out, HP2.out⟩)
                    simp only [putAll, Act.put, List.setIfInBounds_toArray, List.set_cons_zero, List.set_cons_succ]
                  rcases i with _ | i
                  · simp only [List.getElem?_toArray, List.getElem?_cons_succ, List.getElem?_cons_zero, Option.some.injEq] at ho
                    subst ho
                    obtain rfl := HG.out.at_ 24 (haft { on := 24, ground := .data } (by simp) rfl) rfl rfl
                    have hm := HP.out.store (by rw [hsz]; exact hi) (by decide) (by decide) (haft { on := 23, ground := .data } (by simp) rfl) hLi
                    obtain rfl := HG.out.at_ 23 (haft { on := 23, ground := .data } (by simp) rfl) rfl rfl
                    have q8 := (HLA.out.bk2 hm.1.2).twelve
                    have hx := hm.1.1.sl.frm
                    have hx2 := hx.choose_spec
                    generalize hx.choose = AX at hx2
                    have hx3 := hx2.choose_spec
                    generalize hx2.choose = cX at hx3
                    have ev := hx3.1
                    rw [List.length_append] at ev
                    subst ev
                    clear hx hx2 hx3
                    have HP2 := Aside.mk hm.2
                    have HG2 := Aside.mk (HG.out.set 25 (v := undef) rfl)
                    have HK := Aside.mk hK
                    clear hK haft hsz hi hLi hdn HP HG hm
                    rw [if_pos (by rfl)]
                    simp only [putAll, Act.put, List.setIfInBounds_toArray, List.set_cons_zero, List.set_cons_succ]
                    go_simp
                    refine HK.out _ _ ((HJ.out _ _ _).2 ⟨[u0, u1, u2, u3, u4, u5, u6, u7, u8, u9, u10, u11, u12, u13, u14, u15, u16, u17, u18, u19, u20, u21, u22, (.slice AX (rs.length + 1) cX), (.pointer (some ⟨Q, 4, none⟩)), undef], (.slice AX (rs.length + 1) cX), rfl, ?_, HG2.out, HP2.out⟩)
                    simp only [putAll, Act.put, List.setIfInBounds_toArray, List.set_cons_zero, List.set_cons_succ]
                  exact absurd ho (by simp)
                · intro L' a w' hall hJ1
                  obtain ⟨us, v, hl, rfl, hG, hP⟩ := (HJ.out _ _ _).1 hJ1
                  have hus := hG.all (n := 26) (by rw [hVS]; rfl) hall
                  have hd := hP.done (hall 25 (by decide))
                  have hd2 := hd.choose_spec
                  generalize hd.choose = w8 at hd2
                  obtain rfl := hd2.2
                  have HO8 := Aside.mk hd2.1
                  clear hd hd2 hG hP hl hJ1 hall HJ HVL HVS
                  subst hus hVS hA
                  have hx := HO8.out.1.sl.frm
                  have hx2 := hx.choose_spec
                  generalize hx.choose = AX at hx2
                  have hx3 := hx2.choose_spec
                  generalize hx2.choose = cX at hx3
                  have ev := hx3.1
                  subst ev
                  clear hx hx2 hx3
                  have hl' : L - 6 = l'.length := by have := HL.out; simp at this; omega
                  have HLL := Aside.mk hl'
                  have hdr := HLA.out.row.drop (n := 6) (by simp) HLA.out.cap
                  have HPUT := Aside.mk fun (A2 : Option Addr) (c2 : Nat) (hrow : str.Row w ok A2 l') (hcap : l'.length ≤ c2) => HLA.out.put HO8.out.2 HO8.out.1 hrow hcap HAT.out (by have := HLA.out.len; simp at this ⊢; omega) (fun x hx => HLA.out.sz x (by simp [hx]))
                  generalize hrr : rs ++ [(⟨n1, n2, n3, n4, n5', y⟩ : Rul)] = rs1 at *
                  clear hrr HAT HO8 HLA C2 ZZ GY N5 HL6 HLN HA2 gy gz gy2 gz2 HYZ HY HYS HZ5
                  simp only [putAll, Act.put, List.setIfInBounds_toArray, List.set_cons_zero, List.set_cons_succ]
                  by_cases h6c : c = 6
                  · rw [if_pos h6c] at hdr
                    have HP := Aside.mk (HPUT.out (some ad) 0 hdr (by omega))
                    subst h6c
                    clear hdr hl'
                    go_wp2_with fail
                    exact ⟨⟨_, _, l', _, _, by rw [← HLL.out, show L - 6 = 0 by omega], HP⟩, by simp [slLen]; omega⟩
                  · rw [if_neg h6c] at hdr
                    have HP := Aside.mk (HPUT.out (some (ad.add 6)) (c - 6) hdr (by omega))
                    clear hdr hl'
                    go_wp2_with fail
                    exact ⟨⟨_, _, l', _, _, by rw [← HLL.out]; rfl, HP⟩, by simp [slLen]; omega⟩
end Go.Proofs.WK
namespace Go.Proofs.WK
open Go.RowKit Rp
theorem four_of {t : List ByteArray} (h : t.length = 4) : ∃ a b d q, t = [a, b, d, q] := len4 h
theorem refSaid (A : Option Addr) (c n : Nat) (l : List ByteArray) (hne : l ≠ []) (ok : Nat → Prop) (w : World) (hr : str.Row w ok A l) (hc : l.length ≤ c) (hn : l.length = n) (hz : ∀ x ∈ l, x.size < 4294967281) (hlen : l.length ≤ 4294967281) (hm : MaxCell w) :
    Calls Tryz.prog 114 #[.slice A n c] w (SaidD l w) := by
  subst hn
  match l, hne with
  | h0 :: t0, _ =>
    by_cases e3 : h0 = sRules
    · exact refSaidR A c h0 t0 ok w hr hc e3 hz (by simp at hlen; omega)
    · by_cases e1 : h0 = sPut ∧ t0.length = 4
      · obtain ⟨e1, h4⟩ := e1
        obtain ⟨a, b, d, q, rfl⟩ := len4 h4
        exact refSaidP A c h0 a b d q ok w hr (by simpa using hc) e1 hz hm
      · by_cases e2 : h0 = sCut ∧ t0.length = 5
        · obtain ⟨e2, h5⟩ := e2
          obtain ⟨a, b, d, q, y, rfl⟩ := len5 h5
          exact refSaidK A c h0 a b d q y ok w hr (by simpa using hc) e2 hz
        · exact refSaidN A c _ h0 t0 ok w hr rfl e3 (fun h h4 => e1 ⟨h, h4⟩) (fun h h5 => e2 ⟨h, h5⟩)
end Go.Proofs.WK
