/- Cmp is the order of the exact numbers: the plain law of DdOrder. Plain Lean over the functions. Condition: words. -/
import Derived.Test.YtapikmfckpgjoaaDoorKDdOrderDdV
import Derived.Test.YtapikmfckpgjoaaDoorKDdOrderPxL2
import Derived.Test.YtapikmfckpgjoaaDoorKDdOrderPxL1
import Derived.Test.YtapikmfckpgjoaaDoorKDdOrderPxL0
set_option linter.unusedVariables false
namespace Go.Proofs.YtapikmfckpgjoaaDoor.DdOrderL
open Go.RowKit Go.Proofs.YtapikmfckpgjoaaDoorW.PrintWords Go.Proofs.YtapikmfckpgjoaaDoorW.PrintMore Go.Proofs.YtapikmfckpgjoaaDoor.Num Go.Proofs.YtapikmfckpgjoaaDoor.PLib Go.Proofs.YtapikmfckpgjoaaDoor.Ref Go.Proofs.YtapikmfckpgjoaaDoor.GTh Go.Proofs.YtapikmfckpgjoaaDoor.Given Go.Proofs.YtapikmfckpgjoaaDoor.Rp1 Go.Proofs.YtapikmfckpgjoaaDoor.Rp2 Go.Proofs.YtapikmfckpgjoaaDoor.Rp3 Go.Proofs.YtapikmfckpgjoaaDoor.Rp4 Go.Proofs.YtapikmfckpgjoaaDoor.Rp5 Go.Proofs.YtapikmfckpgjoaaDoor.Rp7 Go.Proofs.YtapikmfckpgjoaaDoor.BinLaw Go.Proofs.YtapikmfckpgjoaaDoor.Fm8 Go.Proofs.YtapikmfckpgjoaaDoor.Rnd Go.Proofs.YtapikmfckpgjoaaDoor.Px Go.Proofs.YtapikmfckpgjoaaDoor.DdB Go.Proofs.YtapikmfckpgjoaaDoor.DdV
theorem ord_awake : gnomonlaw20_awake.f = some true := by decide +kernel
theorem ord_pair (a b : Nat) : gnomonlaw20_pair.f (a : Int) (b : Int) = some (a, b) := by
 unfold gnomonlaw20_pair.f gnomonlaw20_float.f
 rw [Int.toNat_natCast, Int.toNat_natCast]; rfl
theorem wneg_cm (a b : Int) : wrap64 (- cmZ a b) = - cmZ a b := by
 have h := cmZ_3 a b
 exact w64 (by omega) (by omega)
theorem ddOrder_lev (a b c d : Nat) (ha : a < 18446744073709551616) (hb : b < 18446744073709551616) (hc : c < 18446744073709551616) (hd : d < 18446744073709551616) : Ev (fun k => gnomonlaw20_DdOrder.f k (a : Int) (b : Int) (c : Int) (d : Int)) true := by
 unfold gnomonlaw20_DdOrder.f
 refine Ev.bind (ev_of ord_awake) (Ev.congr (fun k => if_pos rfl) (Ev.bind (ev_of (ord_pair a b)) (Ev.bind (ev_of (ord_pair c d)) ?_)))
 rcases form_f ha hb with ⟨F, f1⟩ | ⟨F, f1⟩
 ·obtain ⟨n, m, z, dy, ev⟩ := value_f ha hb F
  rcases form_f hc hd with ⟨F', f2⟩ | ⟨F', f2⟩
  ·obtain ⟨n', m', z', dy', ev'⟩ := value_f hc hd F'
   have c1 := cmp_f ha hb hc hd F F'
   have c2 := cmp_f hc hd ha hb F' F
   have e := dcmp_ev dy.dk dy'.dk
   rw [dcm_vs dy.le dy'.le, dy.va, dy'.va] at e
   have an := neg_w ha
   have bn := neg_w hb
   have cn := neg_w hc
   have dn := neg_w hd
   have c3 := cmp_f an.1 bn.1 cn.1 dn.1 ((neg_form ha hb).2 F) ((neg_form hc hd).2 F')
   rw [neg_V ha hb, neg_V hc hd, cmZ_neg] at c3
   refine Ev.bind ev (Ev.bind ev' (Ev.bind (ev_of f1) (Ev.congr (fun k => if_pos rfl) (Ev.congr (fun k => if_pos rfl) (Ev.bind (ev_of f2) (Ev.congr (fun k => if_pos rfl) (Ev.congr (fun k => if_pos rfl) (Ev.bind (ev_of c1) (Ev.bind (ev_of c2) ?_)))))))))
   rw [wneg_cm, ← cmZ_swap]
   refine Ev.congr (fun k => if_pos rfl) (Ev.bind e (Ev.congr (fun k => if_pos rfl) (Ev.bind (ev_of c1) (Ev.congr (fun k => if_pos rfl) ?_))))
   unfold dd_Neg.f
   refine Ev.bind (Ev.now _) (Ev.bind (Ev.now _) (Ev.bind (ev_of c3) ?_))
   rw [wneg_cm, beq_self_eq_true]
   exact Ev.now _
  ·have c1 := cmp_no ha hb hc hd (fun h => F' h.2)
   have c2 := cmp_no hc hd ha hb (fun h => F' h.1)
   refine Ev.bind ev (Ev.bind (value_no hc hd F') (Ev.bind (ev_of f1) (Ev.congr (fun k => if_pos rfl) (Ev.congr (fun k => if_pos rfl) (Ev.bind (ev_of f2) (Ev.congr (fun k => if_neg (by decide)) (Ev.congr (fun k => if_neg (by decide)) (Ev.bind (ev_of c1) (Ev.bind (ev_of c2) ?_)))))))))
   exact Ev.congr (fun k => if_pos (by decide +kernel)) (Ev.bind (ev_of c1) (Ev.now _))
 ·have c1 := cmp_no ha hb hc hd (fun h => F h.1)
  have c2 := cmp_no hc hd ha hb (fun h => F h.2)
  refine Ev.bind (value_no ha hb F) ?_
  rcases form_f hc hd with ⟨F', f2⟩ | ⟨F', f2⟩
  ·obtain ⟨n', m', z', dy', ev'⟩ := value_f hc hd F'
   refine Ev.bind ev' (Ev.bind (ev_of f1) (Ev.congr (fun k => if_neg (by decide)) (Ev.congr (fun k => if_neg (by decide)) (Ev.bind (ev_of f2) (Ev.congr (fun k => if_pos rfl) (Ev.congr (fun k => if_pos rfl) (Ev.bind (ev_of c1) (Ev.bind (ev_of c2) ?_))))))))
   exact Ev.congr (fun k => if_pos (by decide +kernel)) (Ev.bind (ev_of c1) (Ev.now _))
  ·refine Ev.bind (value_no hc hd F') (Ev.bind (ev_of f1) (Ev.congr (fun k => if_neg (by decide)) (Ev.congr (fun k => if_neg (by decide)) (Ev.bind (ev_of f2) (Ev.congr (fun k => if_neg (by decide)) (Ev.congr (fun k => if_neg (by decide)) (Ev.bind (ev_of c1) (Ev.bind (ev_of c2) ?_))))))))
   exact Ev.congr (fun k => if_pos (by decide +kernel)) (Ev.bind (ev_of c1) (Ev.now _))
theorem u64_nat {a : Int} (w : (Lit.int .u64 a).wf = true) : ∃ n : Nat, a = (n : Int) ∧ n < 18446744073709551616 := by
 have e1 : IntKind.u64.min = 0 := rfl
 have e2 : IntKind.u64.max = 18446744073709551615 := rfl
 have h : IntKind.u64.min ≤ a ∧ a ≤ IntKind.u64.max := by simpa [Lit.wf] using w
 exact ⟨a.toNat, by omega, by omega⟩
theorem ddOrder_lrow (a0 b0 a1 b1 : Int) (w0 : (Lit.int .u64 a0).wf = true) (z0 : (Lit.int .u64 b0).wf = true) (w1 : (Lit.int .u64 a1).wf = true) (z1 : (Lit.int .u64 b1).wf = true) : Ev (fun k => gnomonlaw20_DdOrder.f k a0 b0 a1 b1) true := by
 obtain ⟨a, rfl, ha⟩ := u64_nat w0
 obtain ⟨b, rfl, hb⟩ := u64_nat z0
 obtain ⟨c, rfl, hc⟩ := u64_nat w1
 obtain ⟨d, rfl, hd⟩ := u64_nat z1
 exact ddOrder_lev a b c d ha hb hc hd
end Go.Proofs.YtapikmfckpgjoaaDoor.DdOrderL
