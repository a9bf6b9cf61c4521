/- Sums, products and squares of double-doubles against the exact ones of layer 5; MulFloat is a product: the plain laws of DdByDyadics and DdFloats. Plain Lean over the functions. Condition: words. -/
import Derived.Test.YtapikmfckpgjoaaGreatDoorKDdByDyadicsPRefx0
import Derived.Test.YtapikmfckpgjoaaGreatDoorKDdByDyadicsSf1
import Derived.Test.YtapikmfckpgjoaaGreatDoorKDdByDyadicsPxB0
import Derived.Test.YtapikmfckpgjoaaGreatDoorKDdByDyadicsPxL1
set_option linter.unusedVariables false
namespace Go.Proofs.YtapikmfckpgjoaaGreatDoor.DdByDyadicsL
open Go.RowKit Go.Proofs.YtapikmfckpgjoaaGreatDoorW.PrintWords Go.Proofs.YtapikmfckpgjoaaGreatDoorW.PrintMore Go.Proofs.YtapikmfckpgjoaaGreatDoor.Num Go.Proofs.YtapikmfckpgjoaaGreatDoor.PLib Go.Proofs.YtapikmfckpgjoaaGreatDoor.Ref Go.Proofs.YtapikmfckpgjoaaGreatDoor.GTh Go.Proofs.YtapikmfckpgjoaaGreatDoor.Given Go.Proofs.YtapikmfckpgjoaaGreatDoor.Rp1 Go.Proofs.YtapikmfckpgjoaaGreatDoor.Rp2 Go.Proofs.YtapikmfckpgjoaaGreatDoor.Rp3 Go.Proofs.YtapikmfckpgjoaaGreatDoor.Rp4 Go.Proofs.YtapikmfckpgjoaaGreatDoor.Rp5 Go.Proofs.YtapikmfckpgjoaaGreatDoor.Rp7 Go.Proofs.YtapikmfckpgjoaaGreatDoor.BinLaw Go.Proofs.YtapikmfckpgjoaaGreatDoor.Fm8 Go.Proofs.YtapikmfckpgjoaaGreatDoor.Rnd Go.Proofs.YtapikmfckpgjoaaGreatDoor.Px Go.Proofs.YtapikmfckpgjoaaGreatDoor.Sf1 Go.Proofs.YtapikmfckpgjoaaGreatDoor.DdB Go.Proofs.YtapikmfckpgjoaaGreatDoor.DdV Go.Proofs.YtapikmfckpgjoaaGreatDoor.DdE Go.Proofs.YtapikmfckpgjoaaGreatDoor.DdWi
theorem within0 {a b : Nat} (F : Frm a b) {n : Bool} {m : Nat} {x Y : Int} (dy : Dy (-1074) n m x Y) (hY : bl Y.natAbs ≤ 20000) (e : Nat) (he : e ≤ 110) (hb : 2^e * (V a b - Y).natAbs ≤ Y.natAbs) : Ev (fun k => gnomonlaw20_within.f k a b n (lb m) x (e : Int)) true :=
 within_any F (K := 0) (by decide) (by decide) dy hY e he (by rw [Int.pow_zero, Int.mul_one]; exact hb)
theorem nl_V {E : Int} {n : Bool} {m : Nat} {x V : Int} (d : Dy E n m x V) (h : bl V.natAbs ≤ 2102) : nl m < 40 := by
 by_cases c : m = 0
 ·rw [c]; decide
 ·have := d.bl c
  unfold nl
  omega
theorem ddByDyadics_lev (a b c d : Nat) (ha : a < 18446744073709551616) (hb : b < 18446744073709551616) (hc : c < 18446744073709551616) (hd : d < 18446744073709551616) : Ev (fun k => gnomonlaw20_DdByDyadics.f k (a : Int) (b : Int) (c : Int) (d : Int)) true := by
 unfold gnomonlaw20_DdByDyadics.f
 refine Ev.bind (ev_of wi_awake) (Ev.congr (fun k => if_pos rfl) ?_)
 rcases Dz.fit ha hb with ⟨⟨X, fx⟩, e1⟩ | e1
 rotate_left
 ·exact Ev.bind e1 (Ev.congr (fun k => if_neg (by decide)) (Ev.now _))
 refine Ev.bind e1 (Ev.congr (fun k => if_pos rfl) ?_)
 rcases Dz.fit hc hd with ⟨⟨Y, fy⟩, e2⟩ | e2
 rotate_left
 ·exact Ev.bind e2 (Ev.congr (fun k => if_neg (by decide)) (Ev.now _))
 refine Ev.bind e2 (Ev.congr (fun k => if_pos rfl) (Ev.bind (ev_of (wi_pair a b)) (Ev.bind (ev_of (wi_pair c d)) ?_)))
 obtain ⟨n1, m1, x1, d1, v1⟩ := value_f ha hb (Frm_FormP X)
 obtain ⟨n2, m2, x2, d2, v2⟩ := value_f hc hd (Frm_FormP Y)
 have b1 := wi_V a b
 have b2 := wi_V c d
 obtain ⟨n3, m3, x3, d3, v3⟩ := add_dy d1 d2 (by decide) (by decide) (by omega) (by omega)
 obtain ⟨n4, m4, x4, d4, v4⟩ := sub_dy d1 d2 (by decide) (by decide) (by omega) (by omega)
 obtain ⟨n5, m5, x5, d5, _, v5⟩ := mul_dy d1 d2 (by decide) (by decide) (by decide) (by decide) (by omega) (by omega) (.inl (nl_V d1 b1))
 obtain ⟨n6, m6, x6, d6, _, v6⟩ := mul_dy d1 d1 (by decide) (by decide) (by decide) (by decide) (by omega) (by omega) (.inl (nl_V d1 b1))
 refine Ev.bind v1 (Ev.bind v2 (Ev.bind v3 (Ev.bind v4 (Ev.bind v5 (Ev.bind v6 (Ev.congr (fun k => if_pos rfl) (Ev.congr (fun k => if_pos rfl) (Ev.congr (fun k => if_pos rfl) (Ev.congr (fun k => if_pos rfl) (Ev.congr (fun k => if_pos rfl) (Ev.congr (fun k => if_pos rfl) ?_)))))))))))
 have c3 : bl (V a b + V c d).natAbs ≤ 2103 := Nat.le_trans (bl_mono (Int.natAbs_add_le _ _)) (bl_add b1 b2)
 have c4 : bl (V a b - V c d).natAbs ≤ 2103 := by
  have t : (V a b - V c d).natAbs ≤ (V a b).natAbs + (V c d).natAbs := by omega
  exact Nat.le_trans (bl_mono t) (bl_add b1 b2)
 have c5 : bl (V a b * V c d).natAbs ≤ 4204 := by rw [Int.natAbs_mul]; exact bl_mul2 b1 b2
 have c6 : bl (V a b * V a b).natAbs ≤ 4204 := by rw [Int.natAbs_mul]; exact bl_mul2 b1 b1
 obtain ⟨z1, z2, g1, F1, r1⟩ := add_any X Y fx fy
 obtain ⟨z3, z4, g2, F2, r2⟩ := sub_any X Y fx fy
 obtain ⟨z5, z6, g3, F3, g, hg, r3⟩ := mul_any X Y fx fy
 obtain ⟨z7, z8, g4, F4, g', hg', r4⟩ := sqr_any X fx
 have w1 := within0 F1 d3 (by omega) 103 (by decide) r1
 have w2 := within0 F2 d4 (by omega) 103 (by decide) r2
 have w3 := within_any F3 (K := g) (by omega) (by omega) d5 (by omega) 102 (by decide) r3
 have w4 := within_any F4 (K := g') (by omega) (by omega) d6 (by omega) 102 (by decide) r4
 exact Ev.bind (ev_of g1) (Ev.bind w1 (Ev.congr (fun k => if_pos rfl) (Ev.bind (ev_of g2) (Ev.bind w2 (Ev.congr (fun k => if_pos rfl) (Ev.bind (ev_of g3) (Ev.bind w3 (Ev.congr (fun k => if_pos rfl) (Ev.bind (ev_of g4) (Ev.bind w4 (Ev.now _)))))))))))
theorem ddByDyadics_lrow (a0 b0 a1 b1 : Int) (w0 : (Lit.int .u64 a0).wf = true) (z0 : (Lit.int .u64 b0).wf = true) (w1 : (Lit.int .u64 a1).wf = true) (z1 : (Lit.int .u64 b1).wf = true) : Ev (fun k => gnomonlaw20_DdByDyadics.f k a0 b0 a1 b1) true := by
 obtain ⟨a, rfl, ha⟩ := wi_u64 w0
 obtain ⟨b, rfl, hb⟩ := wi_u64 z0
 obtain ⟨c, rfl, hc⟩ := wi_u64 w1
 obtain ⟨d, rfl, hd⟩ := wi_u64 z1
 exact ddByDyadics_lev a b c d ha hb hc hd
end Go.Proofs.YtapikmfckpgjoaaGreatDoor.DdByDyadicsL
