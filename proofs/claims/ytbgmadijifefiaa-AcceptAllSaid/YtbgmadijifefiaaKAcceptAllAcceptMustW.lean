/- The walk of the law AcceptSound: the call returns true, and the world has at most new blocks. No condition. The walk of the law AcceptMust: the call returns true, and the world has at most new blocks. No condition. -/
import Derived.Test.YtbgmadijifefiaaKAcceptAllFitLaw
import Derived.Test.YtbgmadijifefiaaKAcceptAllSoundLaw
import Derived.Test.YtbgmadijifefiaaKAcceptAllSoundW
import Derived.Test.YtbgmadijifefiaaKAcceptAllMustLaw
section
namespace Go.Proofs.Ytbgmadijifefiaa.AcceptSoundW
open Go.RowKit Go.Proofs.YtbgmadijifefiaaW.PrintWords Go.Proofs.YtbgmadijifefiaaW.PrintMore Go.Proofs.Ytbgmadijifefiaa.PLib Go.Proofs.Ytbgmadijifefiaa.FW Go.Proofs.Ytbgmadijifefiaa.Eft Go.Proofs.Ytbgmadijifefiaa.EftLaw Go.Proofs.Ytbgmadijifefiaa.AccW Go.Proofs.Ytbgmadijifefiaa.FitLaw Go.Proofs.Ytbgmadijifefiaa.SoundLaw Go.Proofs.Ytbgmadijifefiaa.SoundW Fl
theorem wf_u64' {a : Int} (h : (Lit.int .u64 a).wf = true) : ∃ n : Nat, a = (n : Int) ∧ n < 18446744073709551616 := by
 have h2 : (0 : Int) ≤ a ∧ a ≤ 18446744073709551615 := by
  have := h
  simpa [Lit.wf, IntKind.min, IntKind.max, IntKind.signed, IntKind.bits] using this
 exact ⟨a.toNat, by omega, by omega⟩
theorem refs {x y r : Nat} {i : Int} (hx : x < 18446744073709551616) (hy : y < 18446744073709551616) (hr : r < 18446744073709551616) (h : AcceptR x y i r true) :
  (∃ k, gnomonref25_Fit.f k (x : Int) (y : Int) i = some true) ∧ ∃ n : Nat, i = -(n : Int) ∧ ∀ w : World, Calls Try.prog 41 #[.int .u64 (x : Int), .int .u64 (y : Int), .int .i64 (-(n : Int)), .int .u64 (r : Int)] w fun e w' => e = .returned (.bool true) ∧ Below w.heap.size w w' := by
 have hf := fit_sure hx h
 obtain ⟨c, hc, hi⟩ := fit_ev x y i hx hy
 obtain rfl := hi.2 hf
 have hfit := h.fit
 obtain ⟨n, hn⟩ : ∃ n : Nat, (n : Int) = -i := ⟨(-i).toNat, by omega⟩
 obtain ⟨s1, s2⟩ := sound_law h hn
 exact ⟨hc.rounds, n, by omega, fun w => sound_yes x y r n hx hy hr (by omega) w s1 s2⟩
set_option maxHeartbeats 2000000 in
theorem walk (a0 a1 a2 : Int) (W : World) (w0 : (Lit.int .u64 a0).wf = true) (w1 : (Lit.int .u64 a1).wf = true) (_w2 : (Lit.int .i64 a2).wf = true) :
  Calls Try.prog 12 #[.int .u64 a0, .int .u64 a1, .int .i64 a2] W (OnW W) := by
 obtain ⟨x, rfl, hx⟩ := wf_u64' w0
 obtain ⟨y, rfl, hy⟩ := wf_u64' w1
 clear w0 w1 _w2
 have HXY := Lib.hid (And.intro hx hy)
 clear hx hy
 go_enter Try.func12, Try.ntmps12
 go_wp2_with fail
 refine (awake_any _).mono ?_
 rintro e0 v0 ⟨rfl, hd⟩
 have HB := Lib.hid hd
 clear hd
 go_wp2_with fail
 refine (ask_any _ _ _ (by rw [Int.toNat_natCast]; exact HXY.out.1) (by rw [Int.toNat_natCast]; exact HXY.out.2) _).mono ?_
 rintro e1 v1 ⟨r, ok, rfl, hr, hb1⟩
 rw [Int.toNat_natCast, Int.toNat_natCast] at hr
 have HB := Lib.hid (on HB.out hb1)
 clear hb1
 cases ok with
 | false =>
  have hr0 : r = 0 := by
   rcases hr with ⟨_, h, _⟩ | ⟨_, u, d, _, h⟩
   ·exact h
   ·rcases h with ⟨_, h, _⟩ | ⟨_, _, h⟩
    ·exact h
    ·cases h
  subst hr0
  clear hr
  go_wp2_with fail
  go_ret
  exact ⟨rfl, HB.out⟩
 | true =>
  obtain ⟨_, hlt, _⟩ := sure_vals hr
  obtain ⟨⟨k, hk⟩, n, hn, hs⟩ := refs HXY.out.1 HXY.out.2 hlt hr
  subst hn
  have HK := Lib.hid hk
  have HS := Lib.hid hs
  clear hk hs hr hlt
  go_wp2_with fail
  refine (gnomonref25_Fit.calls k _ _ _ true _ HK.out).mono ?_
  rintro e2 v2 ⟨rfl, hd⟩
  have HB := Lib.hid (on HB.out hd)
  clear hd
  go_wp2_with fail
  refine (HS.out _).mono ?_
  rintro e3 v3 ⟨rfl, hd⟩
  have HB := Lib.hid (on HB.out hd)
  clear hd
  go_wp2_with fail
  go_ret
  exact ⟨rfl, HB.out⟩
end Go.Proofs.Ytbgmadijifefiaa.AcceptSoundW
end
section
namespace Go.Proofs.Ytbgmadijifefiaa.AcceptMustW
open Go.RowKit Go.Proofs.YtbgmadijifefiaaW.PrintWords Go.Proofs.YtbgmadijifefiaaW.PrintMore Go.Proofs.Ytbgmadijifefiaa.PLib Go.Proofs.Ytbgmadijifefiaa.FW Go.Proofs.Ytbgmadijifefiaa.Eft Go.Proofs.Ytbgmadijifefiaa.EftLaw Go.Proofs.Ytbgmadijifefiaa.AccW Go.Proofs.Ytbgmadijifefiaa.FitLaw Go.Proofs.Ytbgmadijifefiaa.SoundLaw Go.Proofs.Ytbgmadijifefiaa.SoundW Go.Proofs.Ytbgmadijifefiaa.MustW Go.Proofs.Ytbgmadijifefiaa.MustLaw Go.Proofs.Ytbgmadijifefiaa.AcceptSoundW Fl
theorem must_call {x y : Nat} {i : Int} (hx : x < 18446744073709551616) (hy : y < 18446744073709551616) (hf : FitP x y i) : ∃ k : Nat, ∃ r' : Nat, i = -((k : Int) + 1) ∧
  ∀ w : World, Calls Try.prog 42 #[.int .u64 (x : Int), .int .u64 (y : Int), .int .i64 i] w (MustR x y k r' w) := by
 have c1 := hf.1
 have c2 := hf.2.1
 obtain ⟨k, hk⟩ : ∃ k : Nat, (k : Int) = -i - 1 := ⟨(-i - 1).toNat, by omega⟩
 obtain ⟨r', hr, hl⟩ := rpat_nat (U x + U y)
 have e : i = -((k : Int) + 1) := by omega
 refine ⟨k, r', e, fun w => ?_⟩
 rw [e]
 exact must_any x y k hx hy (by omega) w r' hr hl
set_option maxHeartbeats 2000000 in
theorem walk (a0 a1 a2 : Int) (W : World) (w0 : (Lit.int .u64 a0).wf = true) (w1 : (Lit.int .u64 a1).wf = true) (_w2 : (Lit.int .i64 a2).wf = true) :
  Calls Try.prog 13 #[.int .u64 a0, .int .u64 a1, .int .i64 a2] W (OnW W) := by
 obtain ⟨x, rfl, hx⟩ := wf_u64' w0
 obtain ⟨y, rfl, hy⟩ := wf_u64' w1
 clear w0 w1 _w2
 obtain ⟨c, hc, hfit⟩ := fit_ev x y a2 hx hy
 obtain ⟨k, hk⟩ := hc.rounds
 have HK := Lib.hid hk
 have HF := Lib.hid hfit
 have HXY := Lib.hid (And.intro hx hy)
 clear hx hy hc hk hfit
 go_enter Try.func13, Try.ntmps13
 go_wp2_with fail
 refine (awake_any _).mono ?_
 rintro e0 v0 ⟨rfl, hd⟩
 have HB := Lib.hid hd
 clear hd
 go_wp2_with fail
 refine (ask_any _ _ _ (by rw [Int.toNat_natCast]; exact HXY.out.1) (by rw [Int.toNat_natCast]; exact HXY.out.2) _).mono ?_
 rintro e1 v1 ⟨r, ok, rfl, hr, hb1⟩
 rw [Int.toNat_natCast, Int.toNat_natCast] at hr
 have HB := Lib.hid (on HB.out hb1)
 have HR := Lib.hid hr
 clear hb1 hr
 go_wp2_with fail
 refine (gnomonref25_Fit.calls k _ _ _ c _ HK.out).mono ?_
 rintro e2 v2 ⟨rfl, hd⟩
 have HB := Lib.hid (on HB.out hd)
 clear hd
 cases c with
 | false =>
  go_wp2_with fail
  go_ret
  exact ⟨rfl, HB.out⟩
 | true =>
  have hf := HF.out.1 rfl
  obtain ⟨j, r', hj, hm⟩ := must_call HXY.out.1 HXY.out.2 hf
  have HM := Lib.hid hm
  have HJ := Lib.hid hj
  have HFP := Lib.hid hf
  clear hm hj hf
  go_wp2_with fail
  refine (HM.out _).mono ?_
  rintro e3 v3 ⟨c, hc, rfl, hd⟩
  have HB := Lib.hid (on HB.out hd)
  have HC := Lib.hid hc
  clear hd hc
  cases c with
  | false =>
   go_wp2_with fail
   go_ret
   exact ⟨rfl, HB.out⟩
  | true =>
   have hok := must_law HXY.out.1 HR.out HJ.out HFP.out (HC.out.1 rfl)
   subst hok
   have hr := HR.out
   obtain ⟨_, hlt, _⟩ := sure_vals hr
   obtain ⟨_, n, hn, hs⟩ := refs HXY.out.1 HXY.out.2 hlt hr
   subst hn
   have HS := Lib.hid hs
   clear hs hr hlt
   go_wp2_with fail
   refine (HS.out _).mono ?_
   rintro e4 v4 ⟨rfl, hd⟩
   have HB := Lib.hid (on HB.out hd)
   clear hd
   go_wp2_with fail
   go_ret
   exact ⟨rfl, HB.out⟩
end Go.Proofs.Ytbgmadijifefiaa.AcceptMustW
end
