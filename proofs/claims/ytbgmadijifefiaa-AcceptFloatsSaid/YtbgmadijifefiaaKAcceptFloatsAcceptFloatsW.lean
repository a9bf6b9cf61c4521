/- The walk of the law AcceptFloats: the call returns true, and the world has at most new blocks. No condition. -/
import Derived.Test.YtbgmadijifefiaaKAcceptFloatsAskLaw
import Derived.Lib.Hide
namespace Go.Proofs.Ytbgmadijifefiaa.AcceptFloatsW
open Go.RowKit Go.Proofs.Ytbgmadijifefiaa.FW Go.Proofs.Ytbgmadijifefiaa.Eft Go.Proofs.Ytbgmadijifefiaa.EftLaw Go.Proofs.Ytbgmadijifefiaa.AccW Fl
theorem wf_u64 {a : Int} (h : (Lit.int .u64 a).wf = true) : ∃ n : Nat, a = (n : Int) ∧ n < 18446744073709551616 := by
  have h2 : (0 : Int) ≤ a ∧ a ≤ 18446744073709551615 := by
    have := h
    simpa [Lit.wf, IntKind.min, IntKind.max, IntKind.signed, IntKind.bits] using this
  exact ⟨a.toNat, by omega, by omega⟩
set_option maxHeartbeats 2000000 in
theorem walk (a0 a1 : Int) (W : World) (w0 : (Lit.int .u64 a0).wf = true) (_w1 : (Lit.int .i64 a1).wf = true) :
    Calls Try.prog 16 #[.int .u64 a0, .int .i64 a1] W (OnW W) := by
  obtain ⟨b, e0, hb⟩ := wf_u64 w0
  clear w0 _w1
  have hs : Int.tmod a0 9223372036854775808 = ((sz b : Nat) : Int) := by rw [e0, Int.tmod_eq_emod_of_nonneg (by omega)]; rfl
  have E0 := Lib.hid e0
  clear e0
  obtain ⟨s, es⟩ : ∃ s : Int, s = ((sz b : Nat) : Int) := ⟨_, rfl⟩
  rw [← es] at hs
  have E := Lib.hid es
  clear es
  go_enter Try.func16, Try.ntmps16
  go_wp2_with fail
  refine (awake_any _).mono ?_
  rintro e0 v0 ⟨rfl, hd⟩
  by_cases c : 553942754166571008 ≤ sz b ∧ sz b ≤ 8660422083433463808 ∧ -100 ≤ a1 ∧ a1 ≤ -56
  · obtain ⟨c1, c2, c3, c4⟩ := c
    have es := E.out
    have d1 : ¬ s < 553942754166571008 := by omega
    have d2 : ¬ (8660422083433463808 : Int) < s := by omega
    have d3 : ¬ a1 < -100 := by omega
    have d4 : ¬ -56 < a1 := by omega
    have C1 := Lib.hid c1
    have C2 := Lib.hid c2
    clear es c1 c2
    go_wp2_with fail
    refine (ask_any _ _ _ (by rw [E0.out, Int.toNat_natCast]; exact hb) (by decide) _).mono ?_
    rintro e1 v1 ⟨r, ok, rfl, hr, hb1⟩
    rw [E0.out, Int.toNat_natCast] at hr
    obtain ⟨er, rfl⟩ := float_law hb C1.out C2.out c3 c4 hr
    have er2 : ((r : Nat) : Int) = a0 := by rw [er, E0.out]
    rw [er2]
    go_wp2_with fail
    go_ret
    exact ⟨rfl, on hd hb1⟩
  · have C := Lib.hid c
    clear c
    by_cases d1 : s < 553942754166571008
    · go_wp2_with fail
      go_ret
      exact ⟨rfl, hd⟩
    · by_cases d2 : (8660422083433463808 : Int) < s
      · go_wp2_with fail
        go_ret
        exact ⟨rfl, hd⟩
      · by_cases d3 : a1 < -100
        · go_wp2_with fail
          go_ret
          exact ⟨rfl, hd⟩
        · have d4 : -56 < a1 := by
            have es := E.out
            have c := C.out
            omega
          go_wp2_with fail
          go_ret
          exact ⟨rfl, hd⟩
end Go.Proofs.Ytbgmadijifefiaa.AcceptFloatsW
