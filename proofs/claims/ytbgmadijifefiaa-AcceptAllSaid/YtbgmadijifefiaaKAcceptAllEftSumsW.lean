/- The walk of the law EftSums: the call returns true, and the world has at most new blocks. No condition. -/
import Derived.Test.YtbgmadijifefiaaKAcceptAllSumsLaw
import Derived.Lib.Hide
namespace Go.Proofs.Ytbgmadijifefiaa.EftSumsW
open Go.RowKit Go.Proofs.YtbgmadijifefiaaW.PrintWords Go.Proofs.Ytbgmadijifefiaa.Num Go.Proofs.Ytbgmadijifefiaa.PLib Go.Proofs.Ytbgmadijifefiaa.FW Go.Proofs.Ytbgmadijifefiaa.Eft Go.Proofs.Ytbgmadijifefiaa.EftLaw Go.Proofs.Ytbgmadijifefiaa.Awake Go.Proofs.Ytbgmadijifefiaa.SumsLaw Fl
theorem wf_u64 {a : Int} (h : (Lit.int .u64 a).wf = true) : ∃ n : Nat, a = (n : Int) ∧ n < 18446744073709551616 := by
 have h2 : (0 : Int) ≤ a ∧ a ≤ 18446744073709551615 := by
  have := h
  simpa [Lit.wf, IntKind.min, IntKind.max, IntKind.signed, IntKind.bits] using this
 exact ⟨a.toNat, by omega, by omega⟩
set_option maxHeartbeats 1000000 in
theorem walk (a0 a1 : Int) (W : World) (w0 : (Lit.int .u64 a0).wf = true) (w1 : (Lit.int .u64 a1).wf = true) :
  Calls Try.prog 3 #[.int .u64 a0, .int .u64 a1] W fun e w' => e = .returned (.bool true) ∧ Below W.heap.size W w' := by
 obtain ⟨a, rfl, ha⟩ := wf_u64 w0
 obtain ⟨b, rfl, hb⟩ := wf_u64 w1
 clear w0 w1
 go_enter Try.func3, Try.ntmps3
 go_wp2_with fail
 refine (sum_any _ _ _).mono ?_
 rintro e1 v1 ⟨s, t, rfl, hr, hs, ht, hd⟩
 rw [Int.toNat_natCast, Int.toNat_natCast] at hr
 obtain ⟨k, hk⟩ := (sums_true ha hb hs ht (twoSum_law hr)).rounds
 have HK := Lib.hid hk
 clear hk hr
 go_wp2_with fail
 refine (awake_any _).mono ?_
 rintro e2 v2 ⟨rfl, hd2⟩
 go_wp2_with fail
 refine (gnomonref19_Sums.calls k _ _ _ _ true _ HK.out).mono ?_
 rintro e3 v3 ⟨rfl, hb3⟩
 go_wp2_with fail
 go_ret
 have h12 := hd2.to_below hd.below
 exact ⟨rfl, h12.trans (hb3.mono h12.size)⟩
end Go.Proofs.Ytbgmadijifefiaa.EftSumsW
