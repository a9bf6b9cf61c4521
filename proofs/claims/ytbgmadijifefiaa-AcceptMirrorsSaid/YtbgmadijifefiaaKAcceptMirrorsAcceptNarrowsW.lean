/- The walk of the law AcceptNarrows: the call returns true, and the world has at most new blocks. No condition. -/
import Derived.Test.YtbgmadijifefiaaKAcceptMirrorsAskMono
import Derived.Lib.Hide
namespace Go.Proofs.Ytbgmadijifefiaa.AcceptNarrowsW
open Go.RowKit Go.Proofs.Ytbgmadijifefiaa.FW Go.Proofs.Ytbgmadijifefiaa.Eft Go.Proofs.Ytbgmadijifefiaa.EftLaw Go.Proofs.Ytbgmadijifefiaa.AccW Fl
theorem wf_nat {a : Int} (h : (Lit.int .u64 a).wf = true) : a.toNat < 18446744073709551616 := by
  have h2 : (0 : Int) ≤ a ∧ a ≤ 18446744073709551615 := by
    have := h
    simpa [Lit.wf, IntKind.min, IntKind.max, IntKind.signed, IntKind.bits] using this
  omega
theorem w64' {x : Int} (h0 : -9223372036854775808 ≤ x) (h1 : x < 9223372036854775808) : wrap64 x = x := by unfold wrap64; omega
set_option maxHeartbeats 2000000 in
theorem walk (a0 a1 a2 a3 : Int) (W : World) (w0 : (Lit.int .u64 a0).wf = true) (w1 : (Lit.int .u64 a1).wf = true) (_w2 : (Lit.int .i64 a2).wf = true) (_w3 : (Lit.int .i64 a3).wf = true) :
    Calls Try.prog 15 #[.int .u64 a0, .int .u64 a1, .int .i64 a2, .int .i64 a3] W (OnW W) := by
  have hx := wf_nat w0
  have hy := wf_nat w1
  clear w0 w1 _w2 _w3
  go_enter Try.func15, Try.ntmps15
  go_wp2_with fail
  refine (awake_any _).mono ?_
  rintro e0 v0 ⟨rfl, hd⟩
  go_wp2_with fail
  refine (ask_any _ _ _ hx hy _).mono ?_
  rintro e1 v1 ⟨r, ok, rfl, hr, hb1⟩
  cases ok with
  | false =>
    go_wp2_with fail
    go_ret
    exact ⟨rfl, on hd hb1⟩
  | true =>
    have hfit := hr.fit
    have c1 := hfit.1
    have c2 := hfit.2.1
    clear hfit
    have HR := Lib.hid hr
    clear hr
    by_cases l1 : a3 < 2
    · go_wp2_with fail
      go_ret
      exact ⟨rfl, on hd hb1⟩
    · by_cases l2 : 100 < a3
      · go_wp2_with fail
        go_ret
        exact ⟨rfl, on hd hb1⟩
      · have hw : wrap64 (a2 - a3) = a2 - a3 := w64' (by omega) (by omega)
        by_cases l3 : a2 - a3 < -100
        · go_wp2_with fail
          go_ret
          exact ⟨rfl, on hd hb1⟩
        · go_wp2_with fail
          refine (ask_any _ _ _ hx hy _).mono ?_
          rintro e2 v2 ⟨s, ok, rfl, hs, hb2⟩
          obtain ⟨rfl, rfl⟩ := narrow_law HR.out (by omega) (by omega) hs
          go_wp2_with fail
          go_ret
          exact ⟨rfl, on (on hd hb1) hb2⟩
end Go.Proofs.Ytbgmadijifefiaa.AcceptNarrowsW
