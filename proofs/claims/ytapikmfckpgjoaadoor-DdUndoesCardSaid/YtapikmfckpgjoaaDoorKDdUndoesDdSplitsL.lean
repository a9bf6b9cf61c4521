/- The halves added are the number; product and quotient undo one another within their errors: the plain laws of DdSplits and DdUndoes. Plain Lean over the functions. Condition: words. -/
import Derived.Test.YtapikmfckpgjoaaDoorKDdUndoesPRefx0
import Derived.Test.YtapikmfckpgjoaaDoorKDdUndoesDz
import Derived.Test.YtapikmfckpgjoaaDoorKDdUndoesPxB0
import Derived.Test.YtapikmfckpgjoaaDoorKDdUndoesPxL0
set_option linter.unusedVariables false
namespace Go.Proofs.YtapikmfckpgjoaaDoor.DdSplitsL
open Go.RowKit Go.Proofs.YtapikmfckpgjoaaDoorW.PrintWords Go.Proofs.YtapikmfckpgjoaaDoorW.PrintMore Go.Proofs.YtapikmfckpgjoaaDoor.Num Go.Proofs.YtapikmfckpgjoaaDoor.PLib Go.Proofs.YtapikmfckpgjoaaDoor.Ref Go.Proofs.YtapikmfckpgjoaaDoor.GTh Go.Proofs.YtapikmfckpgjoaaDoor.Given Go.Proofs.YtapikmfckpgjoaaDoor.Rp1 Go.Proofs.YtapikmfckpgjoaaDoor.Rp2 Go.Proofs.YtapikmfckpgjoaaDoor.Rp3 Go.Proofs.YtapikmfckpgjoaaDoor.Rp4 Go.Proofs.YtapikmfckpgjoaaDoor.Rp5 Go.Proofs.YtapikmfckpgjoaaDoor.Rp7 Go.Proofs.YtapikmfckpgjoaaDoor.BinLaw Go.Proofs.YtapikmfckpgjoaaDoor.Fm8 Go.Proofs.YtapikmfckpgjoaaDoor.Rnd Go.Proofs.YtapikmfckpgjoaaDoor.Px Go.Proofs.YtapikmfckpgjoaaDoor.DdB Go.Proofs.YtapikmfckpgjoaaDoor.DdV Go.Proofs.YtapikmfckpgjoaaDoor.DdE Go.Proofs.YtapikmfckpgjoaaDoor.DdWi
theorem und_1 {q xy x y z : Int} {G : Int} (hG : 0 < G) (h1 : 2^100 * (q * y - x * G).natAbs ≤ (x * G).natAbs) (h2 : 2^102 * (z * G - q * y).natAbs ≤ (q * y).natAbs) : 2^99 * (z - x).natAbs ≤ x.natAbs := by
 have e : (z - x) * G = (z * G - q * y) + (q * y - x * G) := by rw [Int.sub_mul]; omega
 have t : ((z - x) * G).natAbs ≤ (z * G - q * y).natAbs + (q * y - x * G).natAbs := by rw [e]; exact Int.natAbs_add_le ..
 have u := Fl.tri (q * y) (x * G)
 have k : 2^99 * ((z - x) * G).natAbs ≤ (x * G).natAbs := by
  clear e
  generalize ((z - x) * G).natAbs = a at *
  generalize (z * G - q * y).natAbs = b at *
  generalize (q * y - x * G).natAbs = c at *
  generalize (q * y).natAbs = d at *
  generalize (x * G).natAbs = f at *
  omega
 rw [Int.natAbs_mul, Int.natAbs_mul, ← Nat.mul_assoc] at k
 exact Nat.le_of_mul_le_mul_right k (by omega)
theorem und_2 {p x y z : Int} {G : Int} (y0 : y ≠ 0) (h1 : 2^102 * (p * G - x * y).natAbs ≤ (x * y).natAbs) (h2 : 2^100 * (z * y - p * G).natAbs ≤ (p * G).natAbs) : 2^99 * (z - x).natAbs ≤ x.natAbs := by
 have e : (z - x) * y = (z * y - p * G) + (p * G - x * y) := by rw [Int.sub_mul]; omega
 have t : ((z - x) * y).natAbs ≤ (z * y - p * G).natAbs + (p * G - x * y).natAbs := by rw [e]; exact Int.natAbs_add_le ..
 have u := Fl.tri (p * G) (x * y)
 have k : 2^99 * ((z - x) * y).natAbs ≤ (x * y).natAbs := by
  clear e
  generalize ((z - x) * y).natAbs = a at *
  generalize (z * y - p * G).natAbs = b at *
  generalize (p * G - x * y).natAbs = c at *
  generalize (p * G).natAbs = d at *
  generalize (x * y).natAbs = f at *
  omega
 rw [Int.natAbs_mul, Int.natAbs_mul, ← Nat.mul_assoc] at k
 exact Nat.le_of_mul_le_mul_right k (Int.natAbs_pos.2 y0)
theorem und_3 {y z G : Int} (y0 : y ≠ 0) (h : 2^100 * (z * y - y * G).natAbs ≤ (y * G).natAbs) : 2^100 * (z - G).natAbs ≤ G.natAbs := by
 have e : z * y - y * G = (z - G) * y := by rw [Int.sub_mul, Int.mul_comm y]
 rw [e, Int.natAbs_mul, Int.natAbs_mul, Nat.mul_comm y.natAbs, ← Nat.mul_assoc] at h
 exact Nat.le_of_mul_le_mul_right h (Int.natAbs_pos.2 y0)
theorem V_ne {a b : Nat} (F : Frm a b) (h : Fl.U a ≠ 0) : V a b ≠ 0 := by
 intro e
 apply h
 have := F.hx
 rw [show Fl.U a + Fl.U b = 0 from e, Fl.rn0] at this
 exact this
theorem of_1 : Ev (fun k => dyadic_Of.f k 1) (false, lb 1, 0) := Ev.of (fun k => dyadic_Of.mono _ k) (k := 60) (by decide +kernel)
theorem dy_1 {g : Nat} (hg : g = 1074) : Dy (-1074) false 1 0 ((2:Int)^g) := by
 refine ⟨⟨by decide, fun e => absurd e (by decide), fun _ => rfl, by decide, by decide⟩, by decide, ?_⟩
 show ((1 * 2^((0 : Int) - (-1074)).toNat : Nat) : Int) = _
 rw [Nat.one_mul, show ((0 : Int) - (-1074)).toNat = g by omega, Int.natCast_pow]; rfl
theorem within0' {a b : Nat} (F : Frm a b) {n : Bool} {m : Nat} {x Y : Int} (dy : Dy (-1074) n m x Y) (hY : bl Y.natAbs ≤ 20000) (e : Nat) (he : e ≤ 110) (hb : 2^e * (V a b - Y).natAbs ≤ Y.natAbs) : Ev (fun k => gnomonlaw20_within.f k a b n (lb m) x (e : Int)) true :=
 within_any F (K := 0) (by decide) (by decide) dy hY e he (by rw [Int.pow_zero, Int.mul_one]; exact hb)
theorem ddUndoes_lev (a b c d : Nat) (ha : a < 18446744073709551616) (hb : b < 18446744073709551616) (hc : c < 18446744073709551616) (hd : d < 18446744073709551616) : Ev (fun k => gnomonlaw20_DdUndoes.f k (a : Int) (b : Int) (c : Int) (d : Int)) true := by
 unfold gnomonlaw20_DdUndoes.f
 refine Ev.bind (ev_of wi_awake) (Ev.congr (fun k => if_pos rfl) ?_)
 rcases Dz.fit ha hb with ⟨⟨X, fx⟩, e1⟩ | e1
 rotate_left
 ·exact Ev.bind e1 (Ev.congr (fun k => if_neg (by decide)) (Ev.now _))
 refine Ev.bind e1 (Ev.congr (fun k => if_pos rfl) ?_)
 rcases Dz.fit hc hd with ⟨⟨Y, fy⟩, e2⟩ | e2
 rotate_left
 ·exact Ev.bind e2 (Ev.congr (fun k => if_neg (by decide)) (Ev.now _))
 refine Ev.bind e2 (Ev.congr (fun k => if_pos rfl) (Ev.bind (ev_of (Dz.dz_nought c)) ?_))
 by_cases c0 : Fl.sz c = 0
 ·rw [decide_eq_true c0]
  exact Ev.congr (fun k => if_pos rfl) (Ev.now _)
 rw [decide_eq_false c0]
 have y0 : Fl.U c ≠ 0 := fun e => c0 (Dz.U_zero.1 e)
 have vy := V_ne Y y0
 refine Ev.congr (fun k => if_neg (by decide)) (Ev.bind (ev_of (wi_pair a b)) (Ev.bind (ev_of (wi_pair c d)) ?_))
 obtain ⟨n1, m1, x1, d1, v1⟩ := value_f ha hb (Frm_FormP X)
 obtain ⟨z1, z2, g1, F1, r1⟩ := sub_any Y Y fy fy
 obtain ⟨n2, m2, x2, d2, v2⟩ := value_f F1.lh F1.ll (Frm_FormP F1)
 have vz : V z1 z2 = 0 := by
  rw [Int.sub_self] at r1
  have : (V z1 z2 - 0).natAbs = 0 := by rw [Int.natAbs_zero] at r1; omega
  omega
 rw [vz] at d2
 have m0 := d2.zero.2 rfl
 have nt : gnomonref05_Nought.f n2 (lb m2) x2 = some true := by
  unfold gnomonref05_Nought.f
  rw [lb_len, m0]; rfl
 obtain ⟨z3, z4, g2, F2, G, hG, r2⟩ := div_any Y Y fy fy y0
 have bG : bl ((2:Int)^G).natAbs ≤ 20000 := by
  rw [Int.natAbs_pow]
  show bl (2^G) ≤ 20000
  have := bl_scale (A := 1) (n := G)
  rw [Nat.one_mul] at this
  have : bl 1 = 1 := rfl
  omega
 have w1 := within0' F2 (dy_1 hG) bG 100 (by decide) (und_3 vy r2)
 have bX : bl (V a b).natAbs ≤ 20000 := Nat.le_trans (wi_V a b) (by decide)
 obtain ⟨q1, q2, g3, F3, G3, hG3, r3⟩ := div_any X Y fx fy y0
 obtain ⟨p1, p2, g4, F4, G4, hG4, r4⟩ := mul_any X Y fx fy
 refine Ev.bind v1 (Ev.bind (ev_of g1) (Ev.bind v2 (Ev.congr (fun k => if_pos rfl) (Ev.congr (fun k => if_pos rfl) (Ev.bind (ev_of nt) (Ev.congr (fun k => if_pos rfl) ?_))))))
 refine Ev.bind (ev_of g2) (Ev.bind of_1 (Ev.bind w1 (Ev.congr (fun k => if_pos rfl) (Ev.bind (ev_of g3) (Ev.bind (ev_of g4) (Ev.bind (Ev.now _) ?_))))))
 have last : ∀ (g : Nat → Option Bool), (∀ k, g k = ((gnomonlaw20_bits.f p1 p2).bind fun bt20 => ((gnomonref20_Fit.f k bt20.1 bt20.2).bind fun t21 => (if t21 = true then ((dd_Div.f p1 p2 c d).bind fun bt22 => ((gnomonlaw20_within.f k bt22.1 bt22.2 n1 (lb m1) x1 99).bind fun t23 => (some t23))) else (some true))))) → Ev g true := by
  intro g hg
  refine Ev.congr hg (Ev.bind (Ev.now _) ?_)
  rcases Dz.fit F4.lh F4.ll with ⟨⟨P, fp⟩, e3⟩ | e3
  ·obtain ⟨z5, z6, g5, F5, G5, hG5, r5⟩ := div_any P Y fp fy y0
   rw [hG5, ← hG4] at r5
   have w := within0' F5 d1 bX 99 (by decide) (und_2 vy r4 r5)
   exact Ev.bind e3 (Ev.congr (fun k => if_pos rfl) (Ev.bind (ev_of g5) (Ev.bind w (Ev.now _))))
  ·exact Ev.bind e3 (Ev.congr (fun k => if_neg (by decide)) (Ev.now _))
 rcases Dz.fit F3.lh F3.ll with ⟨⟨Q, fq⟩, e3⟩ | e3
 ·obtain ⟨z5, z6, g5, F5, G5, hG5, r5⟩ := mul_any Q Y fq fy
  rw [hG5, ← hG3] at r5
  have pG : (0:Int) < 2^G3 := Fl.ipw G3
  have w := within0' F5 d1 bX 99 (by decide) (und_1 (xy := 0) pG r3 r5)
  refine Ev.bind e3 (Ev.congr (fun k => if_pos rfl) (Ev.bind (ev_of g5) (Ev.bind w (Ev.congr (fun k => if_pos rfl) ?_))))
  exact last _ (fun k => rfl)
 ·refine Ev.bind e3 (Ev.congr (fun k => if_neg (by decide)) ?_)
  exact last _ (fun k => rfl)
theorem ddUndoes_lrow (a0 b0 a1 b1 : Int) (w0 : (Lit.int .u64 a0).wf = true) (z0 : (Lit.int .u64 b0).wf = true) (w1 : (Lit.int .u64 a1).wf = true) (z1 : (Lit.int .u64 b1).wf = true) : Ev (fun k => gnomonlaw20_DdUndoes.f k a0 b0 a1 b1) true := by
 obtain ⟨a, rfl, ha⟩ := wi_u64 w0
 obtain ⟨b, rfl, hb⟩ := wi_u64 z0
 obtain ⟨c, rfl, hc⟩ := wi_u64 w1
 obtain ⟨d, rfl, hd⟩ := wi_u64 z1
 exact ddUndoes_lev a b c d ha hb hc hd
end Go.Proofs.YtapikmfckpgjoaaDoor.DdSplitsL
