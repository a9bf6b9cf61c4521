/- The contract of the reference's Sound where it says yes. Conditions: the margin's exponent from -100 to -56; both fractions lie in the cell. -/
import Derived.Test.YtbgmadijifefiaaKAcceptAllInCell
namespace Go.Proofs.Ytbgmadijifefiaa.SoundW
open Go.RowKit Go.Proofs.YtbgmadijifefiaaW.PrintWords Go.Proofs.YtbgmadijifefiaaW.PrintMore Go.Proofs.Ytbgmadijifefiaa.Num Go.Proofs.Ytbgmadijifefiaa.PLib Go.Proofs.Ytbgmadijifefiaa.Ref Go.Proofs.Ytbgmadijifefiaa.ZCalls Go.Proofs.Ytbgmadijifefiaa.InCell Fl
theorem incell_yes {a b : Int} {r : Nat} (hr : r < 18446744073709551616) {A B : Option Addr} {ca cb : Nat} (w : World) (p : Nat) (hp : p ≤ 1000000) (ha : a.natAbs < 2^p) (hb : b.natAbs < 2^p) (hA : ZArg w A ca a) (hB : ZArg w B cb b) (hI : InC a b r) :
  Calls Try.prog 64 #[.agg #[.bool (zn a), .slice A (zl a).length ca], .agg #[.bool (zn b), .slice B (zl b).length cb], .int .u64 (r : Int)] w fun e w' => e = .returned (.bool true) ∧ Below w.heap.size w w' :=
 (incell_any a b r hr A B ca cb w p hp ha hb hA hB).mono fun e w' ⟨c, hc, he, hd⟩ => ⟨by rw [he, hc.2 hI], hd⟩
theorem incell_no {a b : Int} {r : Nat} (hr : r < 18446744073709551616) {A B : Option Addr} {ca cb : Nat} (w : World) (p : Nat) (hp : p ≤ 1000000) (ha : a.natAbs < 2^p) (hb : b.natAbs < 2^p) (hA : ZArg w A ca a) (hB : ZArg w B cb b) (hI : ¬ InC a b r) :
  Calls Try.prog 64 #[.agg #[.bool (zn a), .slice A (zl a).length ca], .agg #[.bool (zn b), .slice B (zl b).length cb], .int .u64 (r : Int)] w fun e w' => e = .returned (.bool false) ∧ Below w.heap.size w w' :=
 (incell_any a b r hr A B ca cb w p hp ha hb hA hB).mono fun e w' ⟨c, hc, he, hd⟩ => ⟨by rw [he]; cases c with | false => rfl | true => exact absurd (hc.1 rfl) hI, hd⟩
structure Two (w0 w : World) (g1 g2 : Nat) (z1 z2 : Int) (A1 A2 : Option Addr) (c1 c2 : Nat) : Prop where
 mk :: (below : Below w0.heap.size w0 w) (b1 : w.heap[g1]? = some (.cells #[.bool (zn z1), .slice A1 (zl z1).length c1] 38 (0, 0))) (b2 : w.heap[g2]? = some (.cells #[.bool (zn z2), .slice A2 (zl z2).length c2] 38 (0, 0))) (z1 : ZArg w A1 c1 z1) (z2 : ZArg w A2 c2 z2)
theorem Two.next {w0 w w' : World} {g1 g2 : Nat} {z1 z2 : Int} {A1 A2 : Option Addr} {c1 c2 : Nat} (h : Two w0 w g1 g2 z1 z2 A1 A2 c1 c2) (d : Below w.heap.size w w') : Two w0 w' g1 g2 z1 z2 A1 A2 c1 c2 :=
 ⟨on h.below d, blk_below h.b1 d, blk_below h.b2 d, h.z1.next d, h.z2.next d⟩
theorem tcells {w0 w : World} {g1 g2 : Nat} {z1 z2 : Int} {A1 A2 : Option Addr} {c1 c2 : Nat} (h : Two w0 w g1 g2 z1 z2 A1 A2 c1 c2) :
  w.cell? ⟨g1, 0, none⟩ = some (.bool (zn z1)) ∧ w.cell? ⟨g1, 1, none⟩ = some (.slice A1 (zl z1).length c1) ∧ w.cell? ⟨g2, 0, none⟩ = some (.bool (zn z2)) ∧ w.cell? ⟨g2, 1, none⟩ = some (.slice A2 (zl z2).length c2) :=
 ⟨(blk_cell h.b1 0).trans rfl, (blk_cell h.b1 1).trans rfl, (blk_cell h.b2 0).trans rfl, (blk_cell h.b2 1).trans rfl⟩
structure Bds (v o : Int) (p : Nat) : Prop where mk :: (lim : p ≤ 1000000) (v : v.natAbs < 2^p) (o1 : (o + 1).natAbs < 2^p) (o2 : (o - 1).natAbs < 2^p) (o : o.natAbs < 2^p)
theorem shl_bd {z : Int} {p n : Nat} (h : z.natAbs < 2^p) : (z * 2^n).natAbs < 2^(p + n) := by
 rw [Int.natAbs_mul, Int.natAbs_pow, Nat.pow_add]
 exact Nat.mul_lt_mul_of_pos_right h (Nat.two_pow_pos n)
theorem bds {x y n : Nat} (hx : x < 18446744073709551616) (hy : y < 18446744073709551616) (hn : n ≤ 101) : ∃ p, Bds ((U x + U y) * 2^n) ((2^n : Nat) : Int) p := by
 obtain ⟨N, hN⟩ : ∃ N, N = 2101 := ⟨_, rfl⟩
 have h := shl_bd (n := n) (two_2102 hN hx hy)
 have h1 : 2^n < 2^(N + 1 + n) := Nat.pow_lt_pow_right (by decide) (by omega)
 have h2 : 2^(n + 1) ≤ 2^(N + 1 + n) := Nat.pow_le_pow_right (by decide) (by omega)
 have h3 := Nat.two_pow_pos n
 have h4 : 2^(n + 1 + 1) ≤ 2^(N + 1 + n) := Nat.pow_le_pow_right (by decide) (by omega)
 rw [Nat.pow_succ] at h2
 rw [Nat.pow_succ, Nat.pow_succ] at h4
 exact ⟨N + 1 + n, ⟨by omega, h, by omega, by omega, by omega⟩⟩
theorem pow2_at (w : World) (n m : Nat) (hn : n < 1099511627776) (hm : m = 2^n) : Calls Try.prog 58 #[.int .i64 (n : Int)] w (PW (m : Int) w) := by
 subst hm; exact pow2_any w n hn
theorem zs1 : Zs 1 := Zs_of (k := 1) (by decide) (by decide)
set_option maxRecDepth 100000 in
set_option maxHeartbeats 4000000 in
theorem sound_yes (x y r n : Nat) (hx : x < 18446744073709551616) (hy : y < 18446744073709551616) (hr : r < 18446744073709551616) (hn : n ≤ 101) (w : World)
  (h1 : InC ((U x + U y) * 2^n) (((2^n : Nat) : Int) + 1) r) (h2 : InC ((U x + U y) * 2^n) (((2^n : Nat) : Int) - 1) r) :
  Calls Try.prog 41 #[.int .u64 (x : Int), .int .u64 (y : Int), .int .i64 (-(n : Int)), .int .u64 (r : Int)] w fun e w' => e = .returned (.bool true) ∧ Below w.heap.size w w' := by
 have hu38 := Try.underlying38
 obtain ⟨p, hB⟩ := bds hx hy hn
 obtain ⟨m, hm⟩ : ∃ m : Nat, m = 2^n := ⟨_, rfl⟩
 rw [← hm] at hB h1 h2
 have HM := Lib.hid hm
 clear hm
 have HBD := Lib.hid hB
 have HI1 := Lib.hid h1
 have HI2 := Lib.hid h2
 have HXY := Lib.hid (And.intro hx (And.intro hy hr))
 clear h1 h2 hx hy hr hB
 go_enter Try.func41, Try.ntmps41
 go_wp2_with fail
 refine (pow2_at _ n m (by omega) HM.out).mono ?_
 rintro e1 w1 ⟨A1, c1, rfl, hz, hd⟩
 have HZ := Lib.hid hz
 have HB := Lib.hid hd
 clear hz hd
 go_wp2_with fail
 refine (mk_any _ m (Zs_p (p := p) (by have := HBD.out.lim; omega) HBD.out.o) HZ.out).mono ?_
 rintro e2 w2 ⟨A2, c2, rfl, hz, _, hd⟩
 have HB := Lib.hid (on HB.out hd)
 have HO := Lib.hid hz
 clear hz hd HZ
 go_wp2_with fail
 have HO1 : Hid (Below w.heap.size w (w2.alloc (Obj.cells #[.bool (zn (m : Int)), .slice A2 (zl (m : Int)).length c2] 38)) ∧ (w2.alloc (Obj.cells #[.bool (zn (m : Int)), .slice A2 (zl (m : Int)).length c2] 38)).heap[w2.heap.size]? = some (.cells #[.bool (zn (m : Int)), .slice A2 (zl (m : Int)).length c2] 38 (0, 0)) ∧ ZArg (w2.alloc (Obj.cells #[.bool (zn (m : Int)), .slice A2 (zl (m : Int)).length c2] 38)) A2 c2 (m : Int)) :=
  Lib.hid ⟨on HB.out (alloc_below _ _), blk_new _ _, HO.out.next (alloc_below _ _)⟩
 clear HB HO
 generalize (w2.alloc (Obj.cells #[.bool (zn (m : Int)), .slice A2 (zl (m : Int)).length c2] 38)) = w3 at *
 generalize w2.heap.size = gO at *
 refine (sum25_any _ x y HXY.out.1 HXY.out.2.1 (Zs_word HXY.out.1) (Zs_word HXY.out.2.1) (Zs_two HXY.out.1 HXY.out.2.1)).mono ?_
 rintro e4 w4 ⟨A4, c4, rfl, hz, _, hd⟩
 have HO1 := Lib.hid (And.intro (on HO1.out.1 hd) (And.intro (blk_below HO1.out.2.1 hd) (HO1.out.2.2.next hd)))
 have HZ := Lib.hid hz
 clear hz hd
 go_wp2_with fail
 refine (shl_any _ (U x + U y) n (Zs_two HXY.out.1 HXY.out.2.1) (by omega) (Zs_p (p := p) (by have := HBD.out.lim; omega) HBD.out.v) HZ.out).mono ?_
 rintro e5 w5 ⟨A5, c5, rfl, hz, _, hd⟩
 have HO1 := Lib.hid (And.intro (on HO1.out.1 hd) (And.intro (blk_below HO1.out.2.1 hd) (HO1.out.2.2.next hd)))
 have HZ := Lib.hid hz
 clear hz hd
 go_wp2_with fail
 have HT : Hid (Two w (w5.alloc (Obj.cells #[.bool (zn ((U x + U y) * 2^n)), .slice A5 (zl ((U x + U y) * 2^n)).length c5] 38)).drew w5.heap.size gO ((U x + U y) * 2^n) (m : Int) A5 A2 c5 c2) := by
  have d := alloc_below w5 (Obj.cells #[.bool (zn ((U x + U y) * 2^n)), .slice A5 (zl ((U x + U y) * 2^n)).length c5] 38)
  have t : Two w (w5.alloc (Obj.cells #[.bool (zn ((U x + U y) * 2^n)), .slice A5 (zl ((U x + U y) * 2^n)).length c5] 38)) w5.heap.size gO ((U x + U y) * 2^n) (m : Int) A5 A2 c5 c2 :=
   ⟨on HO1.out.1 d, blk_new _ _, blk_below HO1.out.2.1 d, HZ.out.next d, HO1.out.2.2.next d⟩
  exact Lib.hid (t.next (Below.refl _ _).drew)
 clear HO1 HZ
 generalize (w5.alloc (Obj.cells #[.bool (zn ((U x + U y) * 2^n)), .slice A5 (zl ((U x + U y) * 2^n)).length c5] 38)) = w6 at *
 generalize w5.heap.size = gV at *
 generalize hv : (U x + U y) * 2^n = v at *
 generalize ho : (m : Int) = o at *
 clear hv ho
 have tok1 : True := trivial
 have tok2 : True := trivial
 have tok3 : True := trivial
 have tok4 : True := trivial
 have tok5 : True := trivial
 have tok6 : True := trivial
 go_region_held3 (fun w' => w'.cell? ⟨gV, 0, none⟩ = some (.bool (zn v)) ∧ w'.cell? ⟨gV, 1, none⟩ = some (.slice A5 (zl v).length c5) ∧ w'.cell? ⟨gO, 0, none⟩ = some (.bool (zn o)) ∧ w'.cell? ⟨gO, 1, none⟩ = some (.slice A2 (zl o).length c2))
  (exact tcells HT.out)
  (first
   | (go_at_call 65; have _t := tok1; (with_reducible refine (of1_any _).mono ?_); rintro e_ wx1 ⟨Ax, cx, rfl, hx, _, hd⟩; have HT := Lib.hid (HT.out.next hd); have HX := Lib.hid hx; clear tok1 hx hd)
   | (go_at_call 46; have _t := tok2; (with_reducible refine (add_any _ o 1 (Zs_p (p := p) (by have := HBD.out.lim; omega) HBD.out.o) zs1 (Zs_p (p := p) (by have := HBD.out.lim; omega) HBD.out.o1) HT.out.z2 HX.out).mono ?_); rintro e_ wx2 ⟨Ay, cy, rfl, hx, _, hd⟩; have HT := Lib.hid (HT.out.next hd); have HX := Lib.hid hx; clear tok2 hx hd)
   | (go_at_call 64; have _t := tok3; (with_reducible refine (incell_yes HXY.out.2.2 _ p HBD.out.lim HBD.out.v HBD.out.o1 HT.out.z1 HX.out HI1.out).mono ?_); rintro e_ wx3 ⟨rfl, hd⟩; have HT := Lib.hid (HT.out.next hd); clear tok3 hd)
   | (go_at_call 65; have _t := tok4; (with_reducible refine (of1_any _).mono ?_); rintro e_ wx4 ⟨Az, cz, rfl, hx, _, hd⟩; have HT := Lib.hid (HT.out.next hd); have HX := Lib.hid hx; clear tok4 hx hd)
   | (go_at_call 66; have _t := tok5; (with_reducible refine (sub_any _ o 1 (Zs_p (p := p) (by have := HBD.out.lim; omega) HBD.out.o) zs1 (Zs_p (p := p) (by have := HBD.out.lim; omega) HBD.out.o2) HT.out.z2 HX.out).mono ?_); rintro e_ wx5 ⟨Au, cu, rfl, hx, _, hd⟩; have HT := Lib.hid (HT.out.next hd); have HX := Lib.hid hx; clear tok5 hx hd)
   | (go_at_call 64; have _t := tok6; (with_reducible refine (incell_yes HXY.out.2.2 _ p HBD.out.lim HBD.out.v HBD.out.o2 HT.out.z1 HX.out HI2.out).mono ?_); rintro e_ wx6 ⟨rfl, hd⟩; have HT := Lib.hid (HT.out.next hd); clear tok6 hd))
 go_wp2_with fail
 go_ret
 exact ⟨rfl, HT.out.below⟩
end Go.Proofs.Ytbgmadijifefiaa.SoundW
