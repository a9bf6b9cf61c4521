/- The walk of the law AcceptSound: the call returns true, and the world has at most new blocks. No condition. -/
import Derived.Test.YtbgmadijifefiaaKAcceptMustFitLaw
import Derived.Test.YtbgmadijifefiaaKAcceptMustSoundLaw
import Derived.Test.YtbgmadijifefiaaKAcceptMustSoundW
namespace Go.Proofs.Ytbgmadijifefiaa.AcceptSoundW
open Go.RowKit Go.Proofs.YtbgmadijifefiaaW.PrintWords Go.Proofs.YtbgmadijifefiaaW.PrintMore Go.Proofs.Ytbgmadijifefiaa.PLib Go.Proofs.Ytbgmadijifefiaa.FW Go.Proofs.Ytbgmadijifefiaa.Eft Go.Proofs.Ytbgmadijifefiaa.EftLaw Go.Proofs.Ytbgmadijifefiaa.AccW Go.Proofs.Ytbgmadijifefiaa.FitLaw Go.Proofs.Ytbgmadijifefiaa.SoundLaw Go.Proofs.Ytbgmadijifefiaa.SoundW Fl
theorem wf_u64' {a : Int} (h : (Lit.int .u64 a).wf = true) : ∃ n : Nat, a = (n : Int) ∧ n < 18446744073709551616 := by
  have h2 : (0 : Int) ≤ a ∧ a ≤ 18446744073709551615 := by
    have := h
    simpa [Lit.wf, IntKind.min, IntKind.max, IntKind.signed, IntKind.bits] using this
  exact ⟨a.toNat, by omega, by omega⟩
theorem refs {x y r : Nat} {i : Int} (hx : x < 18446744073709551616) (hy : y < 18446744073709551616) (hr : r < 18446744073709551616) (h : AcceptR x y i r true) :
    (∃ k, gnomonref25_Fit.f k (x : Int) (y : Int) i = some true) ∧ ∃ n : Nat, i = -(n : Int) ∧ ∀ w : World, Calls Try.prog 41 #[.int .u64 (x : Int), .int .u64 (y : Int), .int .i64 (-(n : Int)), .int .u64 (r : Int)] w fun e w' => e = .returned (.bool true) ∧ Below w.heap.size w w' := by
  have hf := fit_sure hx h
  obtain ⟨c, hc, hi⟩ := fit_ev x y i hx hy
  obtain rfl := hi.2 hf
  have hfit := h.fit
  obtain ⟨n, hn⟩ : ∃ n : Nat, (n : Int) = -i := ⟨(-i).toNat, by omega⟩
  obtain ⟨s1, s2⟩ := sound_law h hn
  exact ⟨hc.rounds, n, by omega, fun w => sound_yes x y r n hx hy hr (by omega) w s1 s2⟩
set_option maxHeartbeats 2000000 in
theorem walk (a0 a1 a2 : Int) (W : World) (w0 : (Lit.int .u64 a0).wf = true) (w1 : (Lit.int .u64 a1).wf = true) (_w2 : (Lit.int .i64 a2).wf = true) :
    Calls Try.prog 12 #[.int .u64 a0, .int .u64 a1, .int .i64 a2] W (OnW W) := by
  obtain ⟨x, rfl, hx⟩ := wf_u64' w0
  obtain ⟨y, rfl, hy⟩ := wf_u64' w1
  clear w0 w1 _w2
  have HXY := Lib.hid (And.intro hx hy)
  clear hx hy
  go_enter Try.func12, Try.ntmps12
  go_wp2_with fail
  refine (awake_any _).mono ?_
  rintro e0 v0 ⟨rfl, hd⟩
  have HB := Lib.hid hd
  clear hd
  go_wp2_with fail
  refine (ask_any _ _ _ (by rw [Int.toNat_natCast]; exact HXY.out.1) (by rw [Int.toNat_natCast]; exact HXY.out.2) _).mono ?_
  rintro e1 v1 ⟨r, ok, rfl, hr, hb1⟩
  rw [Int.toNat_natCast, Int.toNat_natCast] at hr
  have HB := Lib.hid (on HB.out hb1)
  clear hb1
  cases ok with
  | false =>
    have hr0 : r = 0 := by
      rcases hr with ⟨_, h, _⟩ | ⟨_, u, d, _, h⟩
      · exact h
      · rcases h with ⟨_, h, _⟩ | ⟨_, _, h⟩
        · exact h
        · cases h
    subst hr0
    clear hr
    go_wp2_with fail
    go_ret
    exact ⟨rfl, HB.out⟩
  | true =>
    obtain ⟨_, hlt, _⟩ := sure_vals hr
    obtain ⟨⟨k, hk⟩, n, hn, hs⟩ := refs HXY.out.1 HXY.out.2 hlt hr
    subst hn
    have HK := Lib.hid hk
    have HS := Lib.hid hs
    clear hk hs hr hlt
    go_wp2_with fail
    refine (gnomonref25_Fit.calls k _ _ _ true _ HK.out).mono ?_
    rintro e2 v2 ⟨rfl, hd⟩
    have HB := Lib.hid (on HB.out hd)
    clear hd
    go_wp2_with fail
    refine (HS.out _).mono ?_
    rintro e3 v3 ⟨rfl, hd⟩
    have HB := Lib.hid (on HB.out hd)
    clear hd
    go_wp2_with fail
    go_ret
    exact ⟨rfl, HB.out⟩
end Go.Proofs.Ytbgmadijifefiaa.AcceptSoundW
