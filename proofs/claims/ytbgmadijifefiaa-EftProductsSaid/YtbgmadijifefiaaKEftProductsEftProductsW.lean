/- The walk of the law EftProducts: the call returns true, and the world has at most new blocks. No condition. -/
import Derived.Test.YtbgmadijifefiaaKEftProductsEftSumsW
import Derived.Test.YtbgmadijifefiaaKEftProductsProdsLaw
namespace Go.Proofs.Ytbgmadijifefiaa.EftProductsW
open Go.RowKit Go.Proofs.YtbgmadijifefiaaW.PrintWords Go.Proofs.YtbgmadijifefiaaW.PrintMore Go.Proofs.Ytbgmadijifefiaa.Num Go.Proofs.Ytbgmadijifefiaa.PLib Go.Proofs.Ytbgmadijifefiaa.FW Go.Proofs.Ytbgmadijifefiaa.Eft Go.Proofs.Ytbgmadijifefiaa.EftLaw Go.Proofs.Ytbgmadijifefiaa.Awake Go.Proofs.Ytbgmadijifefiaa.ProdsLaw Go.Proofs.Ytbgmadijifefiaa.EftSumsW Fl
set_option maxHeartbeats 1000000 in
theorem walk (a0 a1 : Int) (W : World) (w0 : (Lit.int .u64 a0).wf = true) (w1 : (Lit.int .u64 a1).wf = true) :
    Calls Try.prog 6 #[.int .u64 a0, .int .u64 a1] W fun e w' => e = .returned (.bool true) ∧ Below W.heap.size W w' := by
  obtain ⟨a, rfl, ha⟩ := wf_u64 w0
  obtain ⟨b, rfl, hb⟩ := wf_u64 w1
  clear w0 w1
  go_enter Try.func6, Try.ntmps6
  go_wp2_with fail
  refine (prodw_any _ _ _).mono ?_
  rintro e1 v1 ⟨s, t, rfl, hr, hs, ht, hd⟩
  rw [Int.toNat_natCast, Int.toNat_natCast] at hr
  obtain ⟨k, hk⟩ := (products_true rfl ha hb hs ht hr).rounds
  have HK := Lib.hid hk
  clear hk hr
  go_wp2_with fail
  refine (awake_any _).mono ?_
  rintro e2 v2 ⟨rfl, hd2⟩
  go_wp2_with fail
  refine (gnomonref19_Products.calls k _ _ _ _ true _ HK.out).mono ?_
  rintro e3 v3 ⟨rfl, hb3⟩
  go_wp2_with fail
  go_ret
  have h12 := hd2.to_below hd.below
  exact ⟨rfl, h12.trans (hb3.mono h12.size)⟩
end Go.Proofs.Ytbgmadijifefiaa.EftProductsW
