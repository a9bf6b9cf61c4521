/- The halves added are the number; product and quotient undo one another within their errors: the plain laws of DdSplits and DdUndoes. Plain Lean over the functions. Condition: words. -/
import Derived.Test.YtapikmfckpgjoaaDoorKDdSplitsPRefx0
import Derived.Test.YtapikmfckpgjoaaDoorKDdSplitsDz
import Derived.Test.YtapikmfckpgjoaaDoorKDdSplitsPxB0
import Derived.Test.YtapikmfckpgjoaaDoorKDdSplitsPxL0
set_option linter.unusedVariables false
namespace Go.Proofs.YtapikmfckpgjoaaDoor.DdSplitsL
open Go.RowKit Go.Proofs.YtapikmfckpgjoaaDoorW.PrintWords Go.Proofs.YtapikmfckpgjoaaDoorW.PrintMore Go.Proofs.YtapikmfckpgjoaaDoor.Num Go.Proofs.YtapikmfckpgjoaaDoor.PLib Go.Proofs.YtapikmfckpgjoaaDoor.Ref Go.Proofs.YtapikmfckpgjoaaDoor.GTh Go.Proofs.YtapikmfckpgjoaaDoor.Given Go.Proofs.YtapikmfckpgjoaaDoor.Rp1 Go.Proofs.YtapikmfckpgjoaaDoor.Rp2 Go.Proofs.YtapikmfckpgjoaaDoor.Rp3 Go.Proofs.YtapikmfckpgjoaaDoor.Rp4 Go.Proofs.YtapikmfckpgjoaaDoor.Rp5 Go.Proofs.YtapikmfckpgjoaaDoor.Rp7 Go.Proofs.YtapikmfckpgjoaaDoor.BinLaw Go.Proofs.YtapikmfckpgjoaaDoor.Fm8 Go.Proofs.YtapikmfckpgjoaaDoor.Rnd Go.Proofs.YtapikmfckpgjoaaDoor.Px Go.Proofs.YtapikmfckpgjoaaDoor.DdB Go.Proofs.YtapikmfckpgjoaaDoor.DdV Go.Proofs.YtapikmfckpgjoaaDoor.DdE Go.Proofs.YtapikmfckpgjoaaDoor.DdWi
theorem spl_same (l : List Int) (hl : l.length < 9223372036854775807) : Ev (fun k => gnomonref01_Same.f k l l) true := by
 unfold gnomonref01_Same.f
 refine Ev.congr (fun k => if_pos rfl) ?_
 have key : ∀ (n i : Nat), i + n = l.length → Ev (fun k => gnomonref01_Same.l0 k l l (i : Int)) true := by
  intro n
  induction n with
  | zero =>
   intro i hi
   exact Ev.step (f := fun _ => some true) (fun k => by rw [gnomonref01_Same.l0, if_neg (by omega)]) (Ev.now _)
  | succ n ih =>
   intro i hi
   refine Ev.step (f := fun k => gnomonref01_Same.l0 k l l ((i + 1 : Nat) : Int)) (fun k => ?_) (ih (i + 1) (by omega))
   rw [gnomonref01_Same.l0, if_pos (by omega), if_pos (by omega), if_pos (by omega), if_pos rfl, w64 (by omega) (by omega), show (i : Int) + 1 = ((i + 1 : Nat) : Int) by omega]
 exact key l.length 0 (by omega)
theorem same_dy {E : Int} {n n' : Bool} {m m' : Nat} {x x' V : Int} (h : Dy E n m x V) (h' : Dy E n' m' x' V) : Ev (fun k => gnomonref05_Same.f k n (lb m) x n' (lb m') x') true := by
 obtain ⟨rfl, rfl, rfl⟩ := h.uniq h'
 unfold gnomonref05_Same.f
 refine Ev.congr (fun k => if_pos (by rw [beq_self_eq_true])) (Ev.congr (fun k => if_pos rfl) (Ev.bind (spl_same (lb m) ?_) (Ev.now _)))
 rw [lb_len]
 have := h.dk.lim
 omega
theorem ddSplits_lev (a b : Nat) (ha : a < 18446744073709551616) (hb : b < 18446744073709551616) : Ev (fun k => gnomonlaw20_DdSplits.f k (a : Int) (b : Int)) true := by
 unfold gnomonlaw20_DdSplits.f
 refine Ev.bind (ev_of wi_awake) (Ev.congr (fun k => if_pos rfl) ?_)
 rcases Dz.fit ha hb with ⟨⟨X, fx⟩, e1⟩ | e1
 rotate_left
 ·exact Ev.bind e1 (Ev.congr (fun k => if_neg (by decide)) (Ev.now _))
 refine Ev.bind e1 (Ev.congr (fun k => if_pos rfl) ?_)
 rcases Dz.fitFloat b with ⟨fb, e2⟩ | ⟨fb, e2⟩
 rotate_left
 ·exact Ev.bind (ev_of e2) (Ev.congr (fun k => if_neg (by decide)) (Ev.now _))
 refine Ev.bind (ev_of e2) (Ev.congr (fun k => if_pos rfl) (Ev.bind (ev_of (wi_pair a b)) ?_))
 obtain ⟨n1, m1, x1, d1, v1⟩ := value_f ha hb (Frm_FormP X)
 obtain ⟨s, t, g2, F2, r2⟩ := sum_any X.fh X.fl (fit_T fx) (fit_T fb)
 obtain ⟨s', t', g3, F3, r3⟩ := sum_any X.fl X.fh (fit_T fb) (fit_T fx)
 have vx : V a b = Fl.U a + Fl.U b := rfl
 obtain ⟨n2, m2, x2, d2, v2⟩ := value_f F2.lh F2.ll (Frm_FormP F2)
 obtain ⟨n3, m3, x3, d3, v3⟩ := value_f F3.lh F3.ll (Frm_FormP F3)
 rw [r2, ← vx] at d2
 rw [r3, Int.add_comm, ← vx] at d3
 have N := neg_Frm X
 obtain ⟨n4, m4, x4, d4, v4⟩ := value_f N.lh N.ll (Frm_FormP N)
 rw [neg_V ha hb] at d4
 obtain ⟨n5, d5, v5⟩ := neg_dy d1
 refine Ev.bind v1 (Ev.bind (ev_of g2) (Ev.bind v2 (Ev.bind (ev_of g3) (Ev.bind v3 ?_))))
 unfold dd_Neg.f
 refine Ev.bind (Ev.now _) (Ev.bind v4 (Ev.bind v5 (Ev.congr (fun k => if_pos rfl) (Ev.congr (fun k => if_pos rfl) (Ev.congr (fun k => if_pos rfl) (Ev.congr (fun k => if_pos rfl) (Ev.congr (fun k => if_pos rfl) ?_)))))))
 exact Ev.bind (same_dy d1 d2) (Ev.congr (fun k => if_pos rfl) (Ev.bind (same_dy d1 d3) (Ev.congr (fun k => if_pos rfl) (Ev.bind (same_dy d4 d5) (Ev.now _)))))
theorem ddSplits_lrow (a0 b0 : Int) (w0 : (Lit.int .u64 a0).wf = true) (z0 : (Lit.int .u64 b0).wf = true) : Ev (fun k => gnomonlaw20_DdSplits.f k a0 b0) true := by
 obtain ⟨a, rfl, ha⟩ := wi_u64 w0
 obtain ⟨b, rfl, hb⟩ := wi_u64 z0
 exact ddSplits_lev a b ha hb
end Go.Proofs.YtapikmfckpgjoaaDoor.DdSplitsL
