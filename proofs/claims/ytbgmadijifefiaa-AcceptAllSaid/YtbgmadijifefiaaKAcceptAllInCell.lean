/- The contract of the reference's InCell: does a fraction lie in the rounding cell of a pattern. Conditions: numbers of less than 2^37 digits, the denominator above nought. -/
import Derived.Test.YtbgmadijifefiaaKAcceptAllZCalls
import Derived.Test.YtbgmadijifefiaaKAcceptAllEftSumsW
import Derived.Deep.RegionHeld3
import Derived.Deep.DeepCutAuto
import Derived.Test.YtbgmadijifefiaaKAcceptAllPLibx15
import Derived.Test.YtbgmadijifefiaaKAcceptAllPLibx1
import Derived.Test.YtbgmadijifefiaaKAcceptAllPLibx2
import Derived.Test.YtbgmadijifefiaaKAcceptAllPLibx4
import Derived.Test.YtbgmadijifefiaaKAcceptAllPLibx6
import Derived.Test.YtbgmadijifefiaaKAcceptAllPLibx12
namespace Go.Proofs.Ytbgmadijifefiaa.InCell
open Go.RowKit Go.Proofs.YtbgmadijifefiaaW.PrintWords Go.Proofs.YtbgmadijifefiaaW.PrintMore Go.Proofs.Ytbgmadijifefiaa.Num Go.Proofs.Ytbgmadijifefiaa.PLib Go.Proofs.Ytbgmadijifefiaa.Ref Go.Proofs.Ytbgmadijifefiaa.FW Go.Proofs.Ytbgmadijifefiaa.Eft Go.Proofs.Ytbgmadijifefiaa.EftLaw Go.Proofs.Ytbgmadijifefiaa.SumsLaw Go.Proofs.Ytbgmadijifefiaa.EftSumsW Go.Proofs.Ytbgmadijifefiaa.ZCalls Fl
theorem on {W w w' : World} (h : Below W.heap.size W w) (k : Below w.heap.size w w') : Below W.heap.size W w' := h.trans (k.mono h.size)
def low (s : Nat) : Nat := mg (s - 1) + mg s
def high (s : Nat) : Nat := mg s + mg (s + 1)
def InC (a b : Int) (r : Nat) : Prop := zn a = ng r ∧ sz r ≠ 0 ∧ sz r + 1 < INF ∧ (if sz r % 2 = 0 then low (sz r) * b ≤ 2 * a.natAbs ∧ 2 * a.natAbs ≤ high (sz r) * b else low (sz r) * b < 2 * a.natAbs ∧ 2 * a.natAbs < high (sz r) * b)
theorem of_f : gnomonref07_Of.f 64 = some (9223372036854775808, 53, -1074, 971, 9218868437227405312, 9221120237041090561, true) := rfl
theorem cut_f (r : Nat) (hr : r < 18446744073709551616) : gnomonref07_Cut.f 9223372036854775808 53 (-1074) 971 9218868437227405312 9221120237041090561 (r : Int) = some (ng r, ((sz r : Nat) : Int)) := by
 unfold gnomonref07_Cut.f
 rw [if_neg (by decide), sz_int]
 congr 2
 unfold ng
 by_cases h : r / 2^63 = 1
 ·rw [h, decide_eq_true (by omega)]; rfl
 ·have h0 : r / 2^63 = 0 := by omega
  rw [h0, decide_eq_false (by omega)]; rfl
structure ZB (w : World) (g : Nat) (z : Int) : Prop where
 mk :: (out : ∃ A c, w.heap[g]? = some (.cells #[.bool (zn z), .slice A (zl z).length c] 38 (0, 0)) ∧ Kd.R (Kd.int .u32) 83 w 0 (fun _ => True) (.slice A (zl z).length c) (zl z))
theorem ZB.next {w w' : World} {g : Nat} {z : Int} (h : ZB w g z) (d : Below w.heap.size w w') : ZB w' g z := by
 obtain ⟨A, c, h1, h2⟩ := h.out
 exact ⟨A, c, blk_below h1 d, Kd.R_below h2 d⟩
theorem ZB.far {w : World} {g g2 : Nat} {z : Int} {cs : Array Value} (h : ZB w g z) (hne : g ≠ g2) (hb : w.heap[g2]? = some (.cells cs 38 (0, 0))) (i : Nat) (u : Value) : ZB (w.setCell ⟨g2, i, none⟩ u) g z := by
 obtain ⟨A, c, h1, h2⟩ := h.out
 exact ⟨A, c, blk_far h1 hne u, Kd.R_set h2 hb (by decide) i u⟩
theorem ZB.put {w : World} {g : Nat} {z : Int} {y0 y1 : Value} {A : Option Addr} {c : Nat} (hb : w.heap[g]? = some (.cells #[y0, y1] 38 (0, 0))) (hr : Kd.R (Kd.int .u32) 83 w 0 (fun _ => True) (.slice A (zl z).length c) (zl z)) :
  ZB ((w.setCell ⟨g, 0, none⟩ (.bool (zn z))).setCell ⟨g, 1, none⟩ (.slice A (zl z).length c)) g z :=
 ⟨A, c, blk_set (blk_set hb 0 (.bool (zn z))) 1 _, Kd.R_set (Kd.R_set hr hb (by decide) 0 _) (blk_set hb 0 _) (by decide) 1 _⟩
theorem ZB.new {w : World} {z : Int} {A : Option Addr} {c : Nat} (hr : Kd.R (Kd.int .u32) 83 w 0 (fun _ => True) (.slice A (zl z).length c) (zl z)) : ZB (w.alloc (Obj.cells #[.bool (zn z), .slice A (zl z).length c] 38)) w.heap.size z :=
 ⟨A, c, blk_new _ _, Kd.R_alloc hr _⟩
def FBlk (w : World) (g : Nat) : Prop := w.heap[g]? = some (.cells #[.int .u64 9223372036854775808, .int .i64 53, .int .i64 (-1074), .int .i64 971, .int .u64 9218868437227405312, .int .u64 9221120237041090561] 71 (0, 0))
theorem fcells {w : World} {g : Nat} (h : FBlk w g) : w.cell? ⟨g, 0, none⟩ = some (.int .u64 9223372036854775808) ∧ w.cell? ⟨g, 1, none⟩ = some (.int .i64 53) ∧ w.cell? ⟨g, 2, none⟩ = some (.int .i64 (-1074)) ∧ w.cell? ⟨g, 3, none⟩ = some (.int .i64 971) ∧ w.cell? ⟨g, 4, none⟩ = some (.int .u64 9218868437227405312) ∧ w.cell? ⟨g, 5, none⟩ = some (.int .u64 9221120237041090561) :=
 ⟨(blk_cell h 0).trans rfl, (blk_cell h 1).trans rfl, (blk_cell h 2).trans rfl, (blk_cell h 3).trans rfl, (blk_cell h 4).trans rfl, (blk_cell h 5).trans rfl⟩
theorem alloc_below (w : World) (o : Obj) : Below w.heap.size w (w.alloc o) := (Below.refl _ _).alloc (Nat.le_refl _) _
structure St0 (w0 w : World) (gA gB gF : Nat) (a b : Int) (A B : Option Addr) (ca cb : Nat) : Prop where
 mk :: (below : Below w0.heap.size w0 w) (a : w.heap[gA]? = some (.cells #[.bool (zn a), .slice A (zl a).length ca] 38 (0, 0))) (b : w.heap[gB]? = some (.cells #[.bool (zn b), .slice B (zl b).length cb] 38 (0, 0))) (f : FBlk w gF)
theorem St0.next {w0 w w' : World} {gA gB gF : Nat} {a b : Int} {A B : Option Addr} {ca cb : Nat} (h : St0 w0 w gA gB gF a b A B ca cb) (d : Below w.heap.size w w') : St0 w0 w' gA gB gF a b A B ca cb :=
 ⟨on h.below d, blk_below h.a d, blk_below h.b d, blk_below h.f d⟩
structure St (w0 w : World) (gA gB gF : Nat) (a b : Int) (B : Option Addr) (cb : Nat) : Prop where
 mk :: (below : Below w0.heap.size w0 w) (a : ZB w gA a) (b : w.heap[gB]? = some (.cells #[.bool (zn b), .slice B (zl b).length cb] 38 (0, 0))) (f : FBlk w gF)
theorem St.next {w0 w w' : World} {gA gB gF : Nat} {a b : Int} {B : Option Addr} {cb : Nat} (h : St w0 w gA gB gF a b B cb) (d : Below w.heap.size w w') : St w0 w' gA gB gF a b B cb :=
 ⟨on h.below d, h.a.next d, blk_below h.b d, blk_below h.f d⟩
theorem St0.put {w0 w w1 : World} {gA gB gF : Nat} {a a' b : Int} {A0 B A : Option Addr} {c0 cb c : Nat} (h : St0 w0 w gA gB gF a b A0 B c0 cb) (hA : w0.heap.size ≤ gA) (n1 : gB ≠ gA) (n2 : gF ≠ gA) (d : Below w.heap.size w w1)
  (hr : Kd.R (Kd.int .u32) 83 w1 w.heap.size (fun _ => True) (.slice A (zl a').length c) (zl a')) : St w0 ((w1.setCell ⟨gA, 0, none⟩ (.bool (zn a'))).setCell ⟨gA, 1, none⟩ (.slice A (zl a').length c)) gA gB gF a' b B cb := by
 have h1 := h.next d
 exact ⟨(h1.below.setCell hA _).setCell hA _, ZB.put h1.a (Kd.R_lower hr (Nat.zero_le _)), blk_far (blk_far h1.b n1 _) n1 _, blk_far (blk_far h1.f n2 _) n2 _⟩
structure ZN (w0 w : World) (gA gB gF gX g : Nat) : Prop where
 mk :: (blk : w.heap[g]? = some (.cells #[.bool false, .slice none 0 0] 38 (0, 0))) (nA : gA ≠ g) (nB : gB ≠ g) (nF : gF ≠ g) (nX : gX ≠ g) (le : w0.heap.size ≤ g)
theorem ZN.next {w0 w w' : World} {gA gB gF gX g : Nat} (h : ZN w0 w gA gB gF gX g) (d : Below w.heap.size w w') : ZN w0 w' gA gB gF gX g := ⟨blk_below h.blk d, h.nA, h.nB, h.nF, h.nX, h.le⟩
theorem zb_lt {w : World} {g : Nat} {z : Int} (h : ZB w g z) : g < w.heap.size := by
 obtain ⟨_, _, ha, _⟩ := h.out
 exact blk_lt ha
theorem ZN.make {w0 w w' : World} {gA gB gF gX : Nat} {a b : Int} {B : Option Addr} {cb : Nat} (h : St w0 w gA gB gF a b B cb) (hX : gX < w.heap.size) (d : Below (w.alloc (Obj.cells #[.bool false, .slice none 0 0] 38)).heap.size (w.alloc (Obj.cells #[.bool false, .slice none 0 0] 38)) w') : ZN w0 w' gA gB gF gX w.heap.size :=
 ⟨blk_below (blk_new _ _) d, Nat.ne_of_lt (zb_lt h.a), Nat.ne_of_lt (blk_lt h.b), Nat.ne_of_lt (blk_lt h.f), Nat.ne_of_lt hX, h.below.size⟩
theorem St.far {w0 w : World} {gA gB gF gX g : Nat} {a b : Int} {B : Option Addr} {cb : Nat} (h : St w0 w gA gB gF a b B cb) (z : ZN w0 w gA gB gF gX g) (u v : Value) : St w0 ((w.setCell ⟨g, 0, none⟩ u).setCell ⟨g, 1, none⟩ v) gA gB gF a b B cb :=
 ⟨(h.below.setCell z.le _).setCell z.le _, (h.a.far z.nA z.blk 0 u).far z.nA (blk_set z.blk 0 u) 1 v, blk_far (blk_far h.b z.nB _) z.nB _, blk_far (blk_far h.f z.nF _) z.nF _⟩
structure Quad (w0 w : World) (gT gL gH gB : Nat) (t l h b : Int) (AT AL AH B : Option Addr) (cT cL cH cb : Nat) : Prop where
 mk :: (below : Below w0.heap.size w0 w) (bT : w.heap[gT]? = some (.cells #[.bool (zn t), .slice AT (zl t).length cT] 38 (0, 0))) (bL : w.heap[gL]? = some (.cells #[.bool (zn l), .slice AL (zl l).length cL] 38 (0, 0))) (bH : w.heap[gH]? = some (.cells #[.bool (zn h), .slice AH (zl h).length cH] 38 (0, 0))) (bB : w.heap[gB]? = some (.cells #[.bool (zn b), .slice B (zl b).length cb] 38 (0, 0))) (zT : ZArg w AT cT t) (zL : ZArg w AL cL l) (zH : ZArg w AH cH h) (zB : ZArg w B cb b)
theorem Quad.next {w0 w w' : World} {gT gL gH gB : Nat} {t l h b : Int} {AT AL AH B : Option Addr} {cT cL cH cb : Nat} (q : Quad w0 w gT gL gH gB t l h b AT AL AH B cT cL cH cb) (d : Below w.heap.size w w') : Quad w0 w' gT gL gH gB t l h b AT AL AH B cT cL cH cb :=
 ⟨on q.below d, blk_below q.bT d, blk_below q.bL d, blk_below q.bH d, blk_below q.bB d, q.zT.next d, q.zL.next d, q.zH.next d, q.zB.next d⟩
theorem qcells {w0 w : World} {gT gL gH gB : Nat} {t l h b : Int} {AT AL AH B : Option Addr} {cT cL cH cb : Nat} (q : Quad w0 w gT gL gH gB t l h b AT AL AH B cT cL cH cb) :
  w.cell? ⟨gT, 0, none⟩ = some (.bool (zn t)) ∧ w.cell? ⟨gT, 1, none⟩ = some (.slice AT (zl t).length cT) ∧ w.cell? ⟨gL, 0, none⟩ = some (.bool (zn l)) ∧ w.cell? ⟨gL, 1, none⟩ = some (.slice AL (zl l).length cL) ∧ w.cell? ⟨gH, 0, none⟩ = some (.bool (zn h)) ∧ w.cell? ⟨gH, 1, none⟩ = some (.slice AH (zl h).length cH) ∧ w.cell? ⟨gB, 0, none⟩ = some (.bool (zn b)) ∧ w.cell? ⟨gB, 1, none⟩ = some (.slice B (zl b).length cb) :=
 ⟨(blk_cell q.bT 0).trans rfl, (blk_cell q.bT 1).trans rfl, (blk_cell q.bL 0).trans rfl, (blk_cell q.bL 1).trans rfl, (blk_cell q.bH 0).trans rfl, (blk_cell q.bH 1).trans rfl, (blk_cell q.bB 0).trans rfl, (blk_cell q.bB 1).trans rfl⟩
def InW (a b : Int) (r : Nat) (w : World) (e : Ending) (w' : World) : Prop := ∃ c : Bool, (c = true ↔ InC a b r) ∧ e = .returned (.bool c) ∧ Below w.heap.size w w'
theorem Zs_word {x : Nat} (_h : x < 18446744073709551616) : Zs (U x) := by
 have h1 := mg_bound (sz x)
 have h2 : sz x / 2^52 < 2048 := by unfold sz; omega
 exact Zs_of (k := 53 + sz x / 2^52) (by rw [U_natAbs]; exact h1) (by omega)
theorem Zs_two {x y : Nat} (_hx : x < 18446744073709551616) (_hy : y < 18446744073709551616) : Zs (U x + U y) := by
 obtain ⟨N, hN⟩ : ∃ N, N = 2101 := ⟨_, rfl⟩
 have h1 := mg_bound (sz x)
 have h2 := mg_bound (sz y)
 have h3 : sz x / 2^52 < 2048 := by unfold sz; omega
 have h4 : sz y / 2^52 < 2048 := by unfold sz; omega
 have p1 : 2^(53 + sz x / 2^52) ≤ 2^N := Nat.pow_le_pow_right (by decide) (by omega)
 have p2 : 2^(53 + sz y / 2^52) ≤ 2^N := Nat.pow_le_pow_right (by decide) (by omega)
 refine Zs_of (k := N + 1) ?_ (by omega)
 have e1 := U_natAbs x
 have e2 := U_natAbs y
 rw [Nat.pow_succ]
 omega
theorem U_nat {x : Nat} (h : x < 9223372036854775808) : U x = (mg x : Nat) := U_of_lt h
theorem sgn_0le (z : Int) : 0 ≤ sgn z ↔ 0 ≤ z := by unfold sgn; split <;> (try split) <;> omega
theorem sgn_le0 (z : Int) : sgn z ≤ 0 ↔ z ≤ 0 := by unfold sgn; split <;> (try split) <;> omega
theorem sgn_0lt (z : Int) : 0 < sgn z ↔ 0 < z := by unfold sgn; split <;> (try split) <;> omega
theorem sgn_lt0 (z : Int) : sgn z < 0 ↔ z < 0 := by unfold sgn; split <;> (try split) <;> omega
theorem inc_iff {a b zt zlo zhi : Int} {r s s1 s2 : Nat} (h1 : zn a = ng r) (h2 : ¬ s = 0) (h3 : ¬ 9218868437227405311 ≤ s) (hs : s = sz r) (e1 : s1 = s - 1) (e2 : s2 = s + 1) (et : (a.natAbs : Int) * 2 = zt) (el : U s1 + U s = zlo) (eh : U s + U s2 = zhi) :
  InC a b r ↔ (if s % 2 = 0 then 0 ≤ sgn (zt - zlo * b) ∧ sgn (zt - zhi * b) ≤ 0 else 0 < sgn (zt - zlo * b) ∧ sgn (zt - zhi * b) < 0) := by
 have hI : INF = 9218868437227405312 := by decide
 have u1 := U_nat (x := s1) (by omega)
 have u2 := U_nat (x := s) (by omega)
 have u3 := U_nat (x := s2) (by omega)
 have l1 : zlo = ((low s : Nat) : Int) := by unfold low; rw [← el, u1, u2, e1]; omega
 have l2 : zhi = ((high s : Nat) : Int) := by unfold high; rw [← eh, u2, u3, e2]; omega
 have e : zt = 2 * (a.natAbs : Int) := by omega
 rw [sgn_0le, sgn_le0, sgn_0lt, sgn_lt0, l1, l2, e]
 unfold InC
 rw [← hs]
 clear u1 u2 u3 l1 l2 e el eh et
 generalize ((low s : Nat) : Int) * b = X
 generalize ((high s : Nat) : Int) * b = Y
 constructor
 ·rintro ⟨_, _, _, h⟩
  split at h
  ·rw [if_pos (by assumption)]; omega
  ·rw [if_neg (by assumption)]; omega
 ·intro h
  refine ⟨h1, h2, by omega, ?_⟩
  split at h
  ·rw [if_pos (by assumption)]; omega
  ·rw [if_neg (by assumption)]; omega
theorem Zs_p {z : Int} {p : Nat} (hp : p ≤ 4000000) (h : z.natAbs < 2^p) : Zs z := Zs_of h (by omega)
theorem U_2101 {x N : Nat} (hN : N = 2101) (_h : x < 18446744073709551616) : (U x).natAbs < 2^N := by
 have h1 := mg_bound (sz x)
 have h3 : sz x / 2^52 < 2048 := by unfold sz; omega
 have p1 : 2^(53 + sz x / 2^52) ≤ 2^N := Nat.pow_le_pow_right (by decide) (by omega)
 rw [U_natAbs]; omega
theorem two_2102 {x y N : Nat} (hN : N = 2101) (hx : x < 18446744073709551616) (hy : y < 18446744073709551616) : (U x + U y).natAbs < 2^(N + 1) := by
 have h1 := U_2101 hN hx
 have h2 := U_2101 hN hy
 rw [Nat.pow_succ]
 omega
theorem mul_bd {x y : Int} {p q : Nat} (hx : x.natAbs < 2^p) (hy : y.natAbs < 2^q) : (x * y).natAbs < 2^(p + q) := by
 rw [Int.natAbs_mul, Nat.pow_add]
 exact Nat.mul_lt_mul'' hx hy
theorem sub_bd {x y : Int} {p q : Nat} (hx : x.natAbs < 2^p) (hy : y.natAbs < 2^q) (hpq : p ≤ q) : (x - y).natAbs < 2^(q + 1) := by
 have h := Nat.pow_le_pow_right (n := 2) (by decide) hpq
 rw [Nat.pow_succ]
 omega
theorem zs_all {a b : Int} {p s1 s s2 : Nat} (hp : p ≤ 1000000) (ha : a.natAbs < 2^p) (hb : b.natAbs < 2^p) (l1 : s1 < 18446744073709551616) (l0 : s < 18446744073709551616) (l2 : s2 < 18446744073709551616) :
  Zs (U s1 + U s) ∧ Zs b ∧ Zs ((U s1 + U s) * b) ∧ Zs ((a.natAbs : Int) * 2) ∧ Zs ((a.natAbs : Int) * 2 - (U s1 + U s) * b) ∧ Zs (U s + U s2) ∧ Zs ((U s + U s2) * b) ∧ Zs ((a.natAbs : Int) * 2 - (U s + U s2) * b) := by
 obtain ⟨N, hN⟩ : ∃ N, N = 2101 := ⟨_, rfl⟩
 have x1 := two_2102 hN l1 l0
 have x2 := two_2102 hN l0 l2
 have y1 := mul_bd x1 hb
 have y2 := mul_bd x2 hb
 have ht : ((a.natAbs : Int) * 2).natAbs < 2^(p + 1) := by rw [Nat.pow_succ]; omega
 have h1 := sub_bd ht y1 (by omega)
 have h2 := sub_bd ht y2 (by omega)
 exact ⟨Zs_p (by omega) x1, Zs_p (by omega) hb, Zs_p (by omega) y1, Zs_p (by omega) ht, Zs_p (by omega) h1, Zs_p (by omega) x2, Zs_p (by omega) y2, Zs_p (by omega) h2⟩
theorem no_c {p : Prop} (h : ¬ p) : false = true ↔ p := iff_of_false (by decide) h
set_option maxRecDepth 100000 in
set_option maxHeartbeats 8000000 in
theorem incell_any (a b : Int) (r : Nat) (hr : r < 18446744073709551616) (A B : Option Addr) (ca cb : Nat) (w : World) (p : Nat) (hp : p ≤ 1000000) (ha : a.natAbs < 2^p) (hb : b.natAbs < 2^p) (hA : ZArg w A ca a) (hB : ZArg w B cb b) :
  Calls Try.prog 64 #[.agg #[.bool (zn a), .slice A (zl a).length ca], .agg #[.bool (zn b), .slice B (zl b).length cb], .int .u64 (r : Int)] w (InW a b r w) := by
 have hu38 := Try.underlying38
 have hu71 := Try.underlying71
 have HA := Lib.hid hA
 have HB := Lib.hid hB
 have HCUT := Lib.hid (cut_f r hr)
 have HZA := Lib.hid (And.intro hp (And.intro ha hb))
 clear hA hB ha hb hp
 go_enter Try.func64, Try.ntmps64
 go_wp2_with fail
 refine (gnomonref07_Of.calls 64 _ _ _ _ _ _ _ _ of_f).mono ?_
 rintro e1 w1 ⟨rfl, hd⟩
 have HS : Hid (Below w.heap.size w w1 ∧ w1.heap[w.heap.size]? = some (.cells #[.bool (zn a), .slice A (zl a).length ca] 38 (0, 0)) ∧ w1.heap[w.heap.size + 1]? = some (.cells #[.bool (zn b), .slice B (zl b).length cb] 38 (0, 0))) := by
  have d1 := alloc_below w (Obj.cells #[.bool (zn a), .slice A (zl a).length ca] 38)
  have d2 := alloc_below (w.alloc (Obj.cells #[.bool (zn a), .slice A (zl a).length ca] 38)) (Obj.cells #[.bool (zn b), .slice B (zl b).length cb] 38)
  have zB := blk_new (w.alloc (Obj.cells #[.bool (zn a), .slice A (zl a).length ca] 38)) (Obj.cells #[.bool (zn b), .slice B (zl b).length cb] 38)
  have e : (w.alloc (Obj.cells #[.bool (zn a), .slice A (zl a).length ca] 38)).heap.size = w.heap.size + 1 := by simp
  rw [e] at zB
  exact Lib.hid ⟨on (on d1 d2) hd, blk_below (blk_below (blk_new w _) d2) hd, blk_below zB hd⟩
 have hAB : Hid (w.heap.size < w.heap.size + 1) := Lib.hid (Nat.lt_succ_self _)
 generalize w.heap.size + 1 = gB at *
 go_wp2_with fail
 have HST : Hid (St0 w (w1.alloc (Obj.cells #[.int .u64 9223372036854775808, .int .i64 53, .int .i64 (-1074), .int .i64 971, .int .u64 9218868437227405312, .int .u64 9221120237041090561] 71)) w.heap.size gB w1.heap.size a b A B ca cb ∧ w.heap.size ≠ w1.heap.size ∧ gB ≠ w1.heap.size ∧ w.heap.size < gB) := by
  have d1 := alloc_below w1 (Obj.cells #[.int .u64 9223372036854775808, .int .i64 53, .int .i64 (-1074), .int .i64 971, .int .u64 9218868437227405312, .int .u64 9221120237041090561] 71)
  obtain ⟨x1, x2, x3⟩ := HS.out
  have la := blk_lt x2
  have lb := blk_lt x3
  exact Lib.hid ⟨⟨on x1 d1, blk_below x2 d1, blk_below x3 d1, blk_new _ _⟩, by omega, by omega, hAB.out⟩
 clear HS hAB hd
 generalize (w1.alloc (Obj.cells #[.int .u64 9223372036854775808, .int .i64 53, .int .i64 (-1074), .int .i64 971, .int .u64 9218868437227405312, .int .u64 9221120237041090561] 71)) = w2 at *
 generalize w1.heap.size = gF at *
 obtain ⟨s, hs⟩ : ∃ s : Nat, s = sz r := ⟨_, rfl⟩
 have hs63 : s < 9223372036854775808 := by rw [hs]; exact Nat.mod_lt _ (by decide)
 rw [← hs] at HCUT
 have HSZ := Lib.hid hs
 clear hs
 by_cases h1 : zn a = ng r
 ·rw [← h1] at HCUT
  have HZN := Lib.hid h1
  clear h1
  refine (gnomonref07_Cut.calls _ _ _ _ _ _ _ _ _ _ HCUT.out).mono ?_
  rintro e2 w3 ⟨rfl, hd⟩
  have HS := Lib.hid (HST.out.1.next hd)
  have HNE := Lib.hid HST.out.2
  clear hd HST
  have k0 : w3.cell? ⟨w.heap.size, 0, none⟩ = some (.bool (zn a)) := (blk_cell HS.out.a 0).trans rfl
  have k1 : w3.cell? ⟨w.heap.size, 1, none⟩ = some (.slice A (zl a).length ca) := (blk_cell HS.out.a 1).trans rfl
  have k2 : w3.cell? ⟨gF, 4, none⟩ = some (.int .u64 9218868437227405312) := (blk_cell HS.out.f 4).trans rfl
  by_cases h2 : s = 0
  ·have b2 : ((s : Int) == 0) = true := by rw [h2]; rfl
   have HX := Lib.hid h2
   clear h2
   go_wp2_with fail
   go_ret
   exact ⟨false, no_c (fun h => absurd (HSZ.out.symm.trans HX.out) h.2.1), rfl, HS.out.below⟩
  have b2 : ((s : Int) == 0) = false := by simpa using h2
  by_cases h3 : 9218868437227405311 ≤ s
  ·have b3 : decide (9218868437227405311 ≤ (s : Int)) = true := decide_eq_true (by omega)
   have HX := Lib.hid h3
   clear h2 h3
   go_wp2_with fail
   go_ret
   exact ⟨false, no_c (fun h => by have h4 := h.2.2.1; have h5 := HSZ.out; have h6 := HX.out; have hI : INF = 9218868437227405312 := (by decide); omega), rfl, HS.out.below⟩
  have b3 : decide (9218868437227405311 ≤ (s : Int)) = false := decide_eq_false (by omega)
  have HX := Lib.hid (And.intro h2 h3)
  clear h2 h3
  go_wp2_with fail
  refine (abs_any _ a (Zs_p (p := p) (by have := HZA.out.1; omega) HZA.out.2.1) (HA.out.next HS.out.below)).mono ?_
  rintro e3 w4 ⟨A2, c2, rfl, _, hr, hd⟩
  have HP := Lib.hid (HS.out.put (Nat.le_refl _) (by have := HNE.out; omega) (by have := HNE.out; omega) hd hr)
  have hb4 := blk_below HS.out.a hd
  have f0 := blk_frozen hb4 0
  have f1 := blk_frozen hb4 1
  have k3 : w4.cell? ⟨w.heap.size, 0, none⟩ = some (.bool (zn a)) := (blk_cell hb4 0).trans rfl
  have k4 : w4.cell? ⟨w.heap.size, 1, none⟩ = some (.slice A (zl a).length ca) := (blk_cell hb4 1).trans rfl
  clear hr hd hb4 k0 k1 k2 HS HA
  go_wp2_with fail
  generalize ((w4.setCell ⟨w.heap.size, 0, none⟩ (.bool (zn (a.natAbs : Int)))).setCell ⟨w.heap.size, 1, none⟩ (.slice A2 (zl (a.natAbs : Int)).length c2)) = w5 at *
  clear f0 f1 k3 k4
  obtain ⟨s1, hs1⟩ : ∃ s1 : Nat, s1 = s - 1 := ⟨_, rfl⟩
  obtain ⟨s2, hs2⟩ : ∃ s2 : Nat, s2 = s + 1 := ⟨_, rfl⟩
  have q1 : IntKind.u64.wrap ((s : Int) - 1) = (s1 : Int) := by have := HX.out; rw [wu64 (by omega) (by omega)]; omega
  have q2 : IntKind.u64.wrap ((s : Int) + 1) = (s2 : Int) := by rw [wu64 (by omega) (by omega)]; omega
  have l1 : s1 < 18446744073709551616 := by omega
  have l2 : s2 < 18446744073709551616 := by omega
  have l0 : s < 18446744073709551616 := by omega
  have HE := Lib.hid (And.intro hs1 hs2)
  clear hs1 hs2
  go_cut [11] (fun v11 wc => ∃ gL : Nat, v11 = .pointer (some ⟨gL, 0, none⟩) ∧ Aside (St w wc w.heap.size gB gF (a.natAbs : Int) b B cb ∧ ZB wc gL (U s1 + U s)))
  case first =>
   have HP := Lib.hid (HP.out.next (Below.refl _ _).drew)
   have tok1 : True := trivial
   have tok2 : True := trivial
   have tok3 : True := trivial
   go_region_held3 (fun w' => w'.cell? ⟨gF, 0, none⟩ = some (.int .u64 9223372036854775808) ∧ w'.cell? ⟨gF, 1, none⟩ = some (.int .i64 53) ∧ w'.cell? ⟨gF, 2, none⟩ = some (.int .i64 (-1074)) ∧ w'.cell? ⟨gF, 3, none⟩ = some (.int .i64 971) ∧ w'.cell? ⟨gF, 4, none⟩ = some (.int .u64 9218868437227405312) ∧ w'.cell? ⟨gF, 5, none⟩ = some (.int .u64 9221120237041090561))
    (first | exact fcells HP.out.f | exact fcells (HP.out.next (alloc_below _ _)).f | exact fcells (blk_far (blk_far HP.out.f (blk_ne HP.out.f HZ.out.blk (by decide)) _) (blk_ne HP.out.f HZ.out.blk (by decide)) _))
    (first
     | (go_at_call 59; have _t := tok1; (with_reducible refine (whole_any _ s1 l1).mono ?_); rintro e_ wx1 ⟨Ax, cx, rfl, hx, hxr, hd⟩; (first | (have HZ := Lib.hid (HZ.out.next hd); have HP := Lib.hid (HP.out.next hd)) | (have HP := Lib.hid (HP.out.next hd)) | (have HZ := Lib.hid (ZN.make HP.out (zb_lt HP.out.a) hd); have HZ : Hid (ZN w wx1 w.heap.size gB gF w.heap.size w5.heap.size) := Lib.hid HZ.out; have HP := Lib.hid ((HP.out.next (alloc_below _ _)).next hd))); have HX1 := Lib.hid hx; clear tok1 hx hxr hd)
     | (go_at_call 59; have _t := tok2; (with_reducible refine (whole_any _ s l0).mono ?_); rintro e_ wx2 ⟨Ay, cy, rfl, hy, hyr, hd⟩; (first | (have HZ := Lib.hid (HZ.out.next hd); have HP := Lib.hid (HP.out.next hd); have HX1 := Lib.hid (HX1.out.next hd)) | (have HP := Lib.hid (HP.out.next hd); have HX1 := Lib.hid (HX1.out.next hd)) | (have HZ := Lib.hid (ZN.make HP.out (zb_lt HP.out.a) hd); have HP := Lib.hid ((HP.out.next (alloc_below _ _)).next hd); have HX1 := Lib.hid ((HX1.out.next (alloc_below _ _)).next hd))); have HY1 := Lib.hid hy; clear tok2 hy hyr hd)
     | (go_at_call 46; have _t := tok3; (first | (with_reducible refine (add_any _ (U s1) (U s) (Zs_word l1) (Zs_word l0) (Zs_two l1 l0) HX1.out HY1.out).mono ?_) | (with_reducible refine (add_any _ (U s1) (U s) (Zs_word l1) (Zs_word l0) (Zs_two l1 l0) (HX1.out.next (alloc_below _ _)) (HY1.out.next (alloc_below _ _))).mono ?_)); rintro e_ wx3 ⟨Az, cz, rfl, hz, hzr, hd⟩; (first | (have HZ := Lib.hid (HZ.out.next hd); have HP := Lib.hid (HP.out.next hd); have kz0 := (blk_cell HZ.out.blk 0).trans rfl; have kz1 := (blk_cell HZ.out.blk 1).trans rfl; have fz0 := blk_frozen HZ.out.blk 0; have fz1 := blk_frozen HZ.out.blk 1) | (have HP := Lib.hid (HP.out.next hd)) | (have HZ := Lib.hid (ZN.make HP.out (zb_lt HP.out.a) hd); have HP := Lib.hid ((HP.out.next (alloc_below _ _)).next hd); have kz0 := (blk_cell HZ.out.blk 0).trans rfl; have kz1 := (blk_cell HZ.out.blk 1).trans rfl; have fz0 := blk_frozen HZ.out.blk 0; have fz1 := blk_frozen HZ.out.blk 1)); have HZR := Lib.hid (Kd.R_lower hzr (Nat.zero_le _)); clear tok3 hz hzr hd))
   all_goals (go_wp2_with fail; go_meet; first | exact ⟨_, rfl, ⟨HP.out.far HZ.out _ _, ZB.put HZ.out.blk HZR.out⟩⟩ | exact ⟨_, rfl, ⟨HP.out.next (alloc_below _ _), ZB.new HZR.out⟩⟩)
  case rest =>
   obtain ⟨gL, rfl, hcut2⟩ := hcut
   obtain ⟨hp, hl⟩ := hcut2.out
   have HP := Lib.hid hp
   have HL := Lib.hid hl
   clear hp hl hcut2
   go_upto_region 7 with fail
   go_cut [12] (fun v12 wd => ∃ gH : Nat, v12 = .pointer (some ⟨gH, 0, none⟩) ∧ Aside (St w wd w.heap.size gB gF (a.natAbs : Int) b B cb ∧ ZB wd gL (U s1 + U s) ∧ ZB wd gH (U s + U s2)))
   case first =>
    have HP := Lib.hid (HP.out.next (Below.refl _ _).drew)
    have HL := Lib.hid (HL.out.next (Below.refl _ _).drew)
    have tok1 : True := trivial
    have tok2 : True := trivial
    have tok3 : True := trivial
    go_region_held3 (fun w' => w'.cell? ⟨gF, 0, none⟩ = some (.int .u64 9223372036854775808) ∧ w'.cell? ⟨gF, 1, none⟩ = some (.int .i64 53) ∧ w'.cell? ⟨gF, 2, none⟩ = some (.int .i64 (-1074)) ∧ w'.cell? ⟨gF, 3, none⟩ = some (.int .i64 971) ∧ w'.cell? ⟨gF, 4, none⟩ = some (.int .u64 9218868437227405312) ∧ w'.cell? ⟨gF, 5, none⟩ = some (.int .u64 9221120237041090561))
     (first | exact fcells HP.out.f | exact fcells (HP.out.next (alloc_below _ _)).f | exact fcells (blk_far (blk_far HP.out.f (blk_ne HP.out.f HZ.out.blk (by decide)) _) (blk_ne HP.out.f HZ.out.blk (by decide)) _))
     (first
      | (go_at_call 59; have _t := tok1; (with_reducible refine (whole_any _ s l0).mono ?_); rintro e_ wx1 ⟨Ax, cx, rfl, hx, hxr, hd⟩; (first | (have HZ := Lib.hid (HZ.out.next hd); have HP := Lib.hid (HP.out.next hd); have HL := Lib.hid (HL.out.next hd)) | (have HP := Lib.hid (HP.out.next hd); have HL := Lib.hid (HL.out.next hd)) | (have HZ := Lib.hid (ZN.make HP.out (zb_lt HL.out) hd); have HZ : Hid (ZN w wx1 w.heap.size gB gF gL wc.heap.size) := Lib.hid HZ.out; have HP := Lib.hid ((HP.out.next (alloc_below _ _)).next hd); have HL := Lib.hid ((HL.out.next (alloc_below _ _)).next hd))); have HX1 := Lib.hid hx; clear tok1 hx hxr hd)
      | (go_at_call 59; have _t := tok2; (with_reducible refine (whole_any _ s2 l2).mono ?_); rintro e_ wx2 ⟨Ay, cy, rfl, hy, hyr, hd⟩; (first | (have HZ := Lib.hid (HZ.out.next hd); have HP := Lib.hid (HP.out.next hd); have HL := Lib.hid (HL.out.next hd); have HX1 := Lib.hid (HX1.out.next hd)) | (have HP := Lib.hid (HP.out.next hd); have HL := Lib.hid (HL.out.next hd); have HX1 := Lib.hid (HX1.out.next hd)) | (have HZ := Lib.hid (ZN.make HP.out (zb_lt HL.out) hd); have HP := Lib.hid ((HP.out.next (alloc_below _ _)).next hd); have HL := Lib.hid ((HL.out.next (alloc_below _ _)).next hd); have HX1 := Lib.hid ((HX1.out.next (alloc_below _ _)).next hd))); have HY1 := Lib.hid hy; clear tok2 hy hyr hd)
      | (go_at_call 46; have _t := tok3; (first | (with_reducible refine (add_any _ (U s) (U s2) (Zs_word l0) (Zs_word l2) (Zs_two l0 l2) HX1.out HY1.out).mono ?_) | (with_reducible refine (add_any _ (U s) (U s2) (Zs_word l0) (Zs_word l2) (Zs_two l0 l2) (HX1.out.next (alloc_below _ _)) (HY1.out.next (alloc_below _ _))).mono ?_)); rintro e_ wx3 ⟨Az, cz, rfl, hz, hzr, hd⟩; (first | (have HZ := Lib.hid (HZ.out.next hd); have HP := Lib.hid (HP.out.next hd); have HL := Lib.hid (HL.out.next hd); have kz0 := (blk_cell HZ.out.blk 0).trans rfl; have kz1 := (blk_cell HZ.out.blk 1).trans rfl; have fz0 := blk_frozen HZ.out.blk 0; have fz1 := blk_frozen HZ.out.blk 1) | (have HP := Lib.hid (HP.out.next hd); have HL := Lib.hid (HL.out.next hd)) | (have HZ := Lib.hid (ZN.make HP.out (zb_lt HL.out) hd); have HP := Lib.hid ((HP.out.next (alloc_below _ _)).next hd); have HL := Lib.hid ((HL.out.next (alloc_below _ _)).next hd); have kz0 := (blk_cell HZ.out.blk 0).trans rfl; have kz1 := (blk_cell HZ.out.blk 1).trans rfl; have fz0 := blk_frozen HZ.out.blk 0; have fz1 := blk_frozen HZ.out.blk 1)); have HZR := Lib.hid (Kd.R_lower hzr (Nat.zero_le _)); clear tok3 hz hzr hd))
    all_goals (go_wp2_with fail; go_meet; first | exact ⟨_, rfl, ⟨HP.out.far HZ.out _ _, (HL.out.far HZ.out.nX HZ.out.blk 0 _).far HZ.out.nX (blk_set HZ.out.blk 0 _) 1 _, ZB.put HZ.out.blk HZR.out⟩⟩ | exact ⟨_, rfl, ⟨HP.out.next (alloc_below _ _), HL.out.next (alloc_below _ _), ZB.new HZR.out⟩⟩)
   case rest =>
    obtain ⟨gH, rfl, hcut2⟩ := hcut
    obtain ⟨hp, hl, hh⟩ := hcut2.out
    have HP := Lib.hid hp
    have HL := Lib.hid hl
    have HH := Lib.hid hh
    clear hp hl hh hcut2
    obtain ⟨A5, c5, hb5, hr5⟩ := HP.out.a.out
    have k5 := (blk_cell hb5 0).trans rfl
    have k6 := (blk_cell hb5 1).trans rfl
    obtain ⟨_, hc5, hC5⟩ := Kd.R_reads' hr5
    have HR5 := Lib.hid (ZArg.mk hc5 hC5)
    have HZS := Lib.hid (zs_all HZA.out.1 HZA.out.2.1 HZA.out.2.2 l1 l0 l2)
    clear hb5 hr5 hc5 hC5
    go_wp2_with fail
    refine (shl1_any _ (a.natAbs : Int) (Zs_p (p := p) (by have := HZA.out.1; omega) (by rw [Int.natAbs_natCast]; exact HZA.out.2.1)) HZS.out.2.2.2.1 HR5.out).mono ?_
    rintro e8 wS ⟨AT, cT, rfl, hT, hTr, hd⟩
    have HP := Lib.hid (HP.out.next hd)
    have HL := Lib.hid (HL.out.next hd)
    have HH := Lib.hid (HH.out.next hd)
    have HT := Lib.hid hT
    clear hT hTr hd k5 k6 HR5
    go_wp2_with fail
    obtain ⟨AL, cL, hbL, hrL⟩ := HL.out.out
    obtain ⟨AH, cH, hbH, hrH⟩ := HH.out.out
    have HQ : Hid (Quad w (wS.alloc (Obj.cells #[.bool (zn ((a.natAbs : Int) * 2)), .slice AT (zl ((a.natAbs : Int) * 2)).length cT] 38)).drew wS.heap.size gL gH gB ((a.natAbs : Int) * 2) (U s1 + U s) (U s + U s2) b AT AL AH B cT cL cH cb) := by
     have d := alloc_below wS (Obj.cells #[.bool (zn ((a.natAbs : Int) * 2)), .slice AT (zl ((a.natAbs : Int) * 2)).length cT] 38)
     obtain ⟨_, h1, h2⟩ := Kd.R_reads' hrL
     obtain ⟨_, h3, h4⟩ := Kd.R_reads' hrH
     have q : Quad w (wS.alloc (Obj.cells #[.bool (zn ((a.natAbs : Int) * 2)), .slice AT (zl ((a.natAbs : Int) * 2)).length cT] 38)) wS.heap.size gL gH gB ((a.natAbs : Int) * 2) (U s1 + U s) (U s + U s2) b AT AL AH B cT cL cH cb :=
      ⟨on HP.out.below d, blk_new _ _, blk_below hbL d, blk_below hbH d, blk_below HP.out.b d, HT.out.next d, (ZArg.mk h1 h2).next d, (ZArg.mk h3 h4).next d, HB.out.next (on HP.out.below d)⟩
     exact Lib.hid (q.next (Below.refl _ _).drew)
    clear hbL hrL hbH hrH HP HL HH HT
    obtain ⟨gT, hgT⟩ : ∃ g, g = wS.heap.size := ⟨_, rfl⟩
    rw [← hgT] at HQ ⊢
    clear hgT
    generalize (wS.alloc (Obj.cells #[.bool (zn ((a.natAbs : Int) * 2)), .slice AT (zl ((a.natAbs : Int) * 2)).length cT] 38)) = wq at *
    generalize hzt : ((a.natAbs : Int) * 2) = zt at *
    generalize hzlo : (U s1 + U s) = zlo at *
    generalize hzhi : (U s + U s2) = zhi at *
    have HZT := Lib.hid (And.intro hzt (And.intro hzlo hzhi))
    have ZS := HZS
    clear hzt hzlo hzhi q1 q2
    have tok1 : True := trivial
    have tok2 : True := trivial
    have tok3 : True := trivial
    have tok4 : True := trivial
    go_region_held3 (fun w' => w'.cell? ⟨gT, 0, none⟩ = some (.bool (zn zt)) ∧ w'.cell? ⟨gT, 1, none⟩ = some (.slice AT (zl zt).length cT) ∧ w'.cell? ⟨gL, 0, none⟩ = some (.bool (zn zlo)) ∧ w'.cell? ⟨gL, 1, none⟩ = some (.slice AL (zl zlo).length cL) ∧ w'.cell? ⟨gH, 0, none⟩ = some (.bool (zn zhi)) ∧ w'.cell? ⟨gH, 1, none⟩ = some (.slice AH (zl zhi).length cH) ∧ w'.cell? ⟨gB, 0, none⟩ = some (.bool (zn b)) ∧ w'.cell? ⟨gB, 1, none⟩ = some (.slice B (zl b).length cb))
     (exact qcells HQ.out)
     (first
      | (go_at_call 67; have _t := tok1; (with_reducible refine (mul_any _ zlo b ZS.out.1 ZS.out.2.1 ZS.out.2.2.1 HQ.out.zL HQ.out.zB).mono ?_); rintro e_ wy1 ⟨Ax, cx, rfl, hx, hxr, hd⟩; have HQ := Lib.hid (HQ.out.next hd); have HX1 := Lib.hid hx; clear tok1 hx hxr hd)
      | (go_at_call 48; have _t := tok2; (with_reducible refine (cmp_any _ zt (zlo * b) ZS.out.2.2.2.1 ZS.out.2.2.1 ZS.out.2.2.2.2.1 HQ.out.zT HX1.out).mono ?_); rintro e_ wy2 ⟨rfl, hd⟩; have HQ := Lib.hid (HQ.out.next hd); clear tok2 hd)
      | (go_at_call 67; have _t := tok3; (with_reducible refine (mul_any _ zhi b ZS.out.2.2.2.2.2.1 ZS.out.2.1 ZS.out.2.2.2.2.2.2.1 HQ.out.zH HQ.out.zB).mono ?_); rintro e_ wy3 ⟨Ay, cy, rfl, hx, hxr, hd⟩; have HQ := Lib.hid (HQ.out.next hd); have HY1 := Lib.hid hx; clear tok3 hx hxr hd)
      | (go_at_call 48; have _t := tok4; (with_reducible refine (cmp_any _ zt (zhi * b) ZS.out.2.2.2.1 ZS.out.2.2.2.2.2.2.1 ZS.out.2.2.2.2.2.2.2 HQ.out.zT HY1.out).mono ?_); rintro e_ wy4 ⟨rfl, hd⟩; have HQ := Lib.hid (HQ.out.next hd); clear tok4 hd))
    have HFIN := Lib.hid (inc_iff (b := b) HZN.out HX.out.1 HX.out.2 HSZ.out HE.out.1 HE.out.2 HZT.out.1 HZT.out.2.1 HZT.out.2.2)
    generalize sgn (zt - zlo * b) = sc at *
    generalize sgn (zt - zhi * b) = sd at *
    by_cases he : s % 2 = 0
    ·have b4 : ((s : Int) % 2 == 0) = true := by simp; omega
     rw [if_pos he] at HFIN
     clear he
     by_cases hc : 0 ≤ sc
     ·by_cases hd : sd ≤ 0
      ·have HF := Lib.hid (And.intro hc hd)
       have b5 : decide (0 ≤ sc) = true := decide_eq_true hc
       have b6 : decide (sd ≤ 0) = true := decide_eq_true hd
       clear hc hd
       go_wp2_with fail
       go_ret
       exact ⟨true, ⟨fun _ => HFIN.out.2 HF.out, fun _ => rfl⟩, rfl, HQ.out.below⟩
      ·have HF := Lib.hid hd
       have b5 : decide (0 ≤ sc) = true := decide_eq_true hc
       have b6 : decide (sd ≤ 0) = false := decide_eq_false hd
       clear hc hd
       go_wp2_with fail
       go_ret
       exact ⟨false, no_c (fun h => by have h1 := (HFIN.out.1 h).2; have h2 := HF.out; omega), rfl, HQ.out.below⟩
     ·have HF := Lib.hid hc
      have b5 : decide (0 ≤ sc) = false := decide_eq_false hc
      clear hc
      go_wp2_with fail
      go_ret
      exact ⟨false, no_c (fun h => by have h1 := (HFIN.out.1 h).1; have h2 := HF.out; omega), rfl, HQ.out.below⟩
    ·have b4 : ((s : Int) % 2 == 0) = false := by simp; omega
     rw [if_neg he] at HFIN
     clear he
     by_cases hc : 0 < sc
     ·by_cases hd : sd < 0
      ·have HF := Lib.hid (And.intro hc hd)
       have b5 : decide (0 < sc) = true := decide_eq_true hc
       have b6 : decide (sd < 0) = true := decide_eq_true hd
       clear hc hd
       go_wp2_with fail
       go_ret
       exact ⟨true, ⟨fun _ => HFIN.out.2 HF.out, fun _ => rfl⟩, rfl, HQ.out.below⟩
      ·have HF := Lib.hid hd
       have b5 : decide (0 < sc) = true := decide_eq_true hc
       have b6 : decide (sd < 0) = false := decide_eq_false hd
       clear hc hd
       go_wp2_with fail
       go_ret
       exact ⟨false, no_c (fun h => by have h1 := (HFIN.out.1 h).2; have h2 := HF.out; omega), rfl, HQ.out.below⟩
     ·have HF := Lib.hid hc
      have b5 : decide (0 < sc) = false := decide_eq_false hc
      clear hc
      go_wp2_with fail
      go_ret
      exact ⟨false, no_c (fun h => by have h1 := (HFIN.out.1 h).1; have h2 := HF.out; omega), rfl, HQ.out.below⟩
 ·have h1' : ¬ ng r = zn a := fun h => h1 h.symm
  refine (gnomonref07_Cut.calls _ _ _ _ _ _ _ _ _ _ HCUT.out).mono ?_
  rintro e2 w3 ⟨rfl, hd⟩
  have HS := Lib.hid (HST.out.1.next hd)
  clear hd HST
  have k0 : w3.cell? ⟨w.heap.size, 0, none⟩ = some (.bool (zn a)) := (blk_cell HS.out.a 0).trans rfl
  have HX := Lib.hid h1
  clear h1
  go_wp2_with fail
  go_ret
  exact ⟨false, no_c (fun h => absurd h.1 HX.out), rfl, HS.out.below⟩
end Go.Proofs.Ytbgmadijifefiaa.InCell
