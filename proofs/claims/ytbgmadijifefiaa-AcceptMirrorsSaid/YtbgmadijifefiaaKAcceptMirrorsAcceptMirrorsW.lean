/- The walk of the law AcceptMirrors: the call returns true, and the world has at most new blocks. No condition. -/
import Derived.Test.YtbgmadijifefiaaKAcceptMirrorsAcceptNarrowsW
import Derived.Test.YtbgmadijifefiaaKAcceptMirrorsAskMirror
namespace Go.Proofs.Ytbgmadijifefiaa.AcceptMirrorsW
open Go.RowKit Go.Proofs.Ytbgmadijifefiaa.FW Go.Proofs.Ytbgmadijifefiaa.Eft Go.Proofs.Ytbgmadijifefiaa.EftLaw Go.Proofs.Ytbgmadijifefiaa.AccW Go.Proofs.Ytbgmadijifefiaa.AcceptNarrowsW Fl
theorem xor_some {a : Int} (w : (Lit.int .u64 a).wf = true) : ∃ f : Int, bits .xor .u64 a 9223372036854775808 = f ∧ f = ((flip a.toNat : Nat) : Int) := by
  have h2 : (0 : Int) ≤ a ∧ a ≤ 18446744073709551615 := by
    have := w
    simpa [Lit.wf, IntKind.min, IntKind.max, IntKind.signed, IntKind.bits] using this
  refine ⟨_, rfl, ?_⟩
  have h := xor_int a.toNat (by omega)
  rw [Int.toNat_of_nonneg h2.1] at h
  exact h
set_option maxHeartbeats 2000000 in
theorem walk (a0 a1 a2 : Int) (W : World) (w0 : (Lit.int .u64 a0).wf = true) (w1 : (Lit.int .u64 a1).wf = true) (_w2 : (Lit.int .i64 a2).wf = true) :
    Calls Try.prog 17 #[.int .u64 a0, .int .u64 a1, .int .i64 a2] W (OnW W) := by
  have hx := wf_nat w0
  have hy := wf_nat w1
  obtain ⟨f0, x0, e0⟩ := xor_some w0
  obtain ⟨f1, x1, e1⟩ := xor_some w1
  have t0 : f0.toNat = flip a0.toNat := by rw [e0, Int.toNat_natCast]
  have t1 : f1.toNat = flip a1.toNat := by rw [e1, Int.toNat_natCast]
  have T0 := Lib.hid t0
  have T1 := Lib.hid t1
  clear e0 e1 t0 t1 w0 w1 _w2
  go_enter Try.func17, Try.ntmps17
  go_wp2_with fail
  refine (awake_any _).mono ?_
  rintro e0 v0 ⟨rfl, hd⟩
  go_wp2_with fail
  refine (ask_any _ _ _ hx hy _).mono ?_
  rintro e1 v1 ⟨r, ok, rfl, hr, hb1⟩
  cases ok with
  | false =>
    go_wp2_with fail
    go_ret
    exact ⟨rfl, on hd hb1⟩
  | true =>
    have hfit := hr.fit
    have c1 := hfit.1
    have c2 := hfit.2.1
    clear hfit
    have hrlt := (sure_vals hr).2.1
    have hxr := xor_int r hrlt
    have HX := Lib.hid hxr
    have HL := Lib.hid hrlt
    have HR := Lib.hid hr
    clear hr hxr hrlt
    have hw : wrap64 (a2 - 2) = a2 - 2 := w64' (by omega) (by omega)
    by_cases l3 : a2 - 2 < -100
    · go_wp2_with fail
      go_ret
      exact ⟨rfl, on hd hb1⟩
    · go_wp2_with fail
      refine (ask_any _ _ _ (by rw [T0.out]; exact flip_lt hx) (by rw [T1.out]; exact flip_lt hy) _).mono ?_
      rintro e2 v2 ⟨s, ok, rfl, hs, hb2⟩
      rw [T0.out, T1.out] at hs
      obtain ⟨es, rfl⟩ := mirror_law hx hy HR.out (by omega) (by omega) hs
      have es2 : bits .xor .u64 (r : Int) 9223372036854775808 = (s : Int) := by rw [HX.out, es]
      clear es
      go_wp2_with fail
      go_ret
      exact ⟨rfl, on (on hd hb1) hb2⟩
end Go.Proofs.Ytbgmadijifefiaa.AcceptMirrorsW
