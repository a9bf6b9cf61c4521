/- The walk of the law EftLittle: the call returns true, and the world has at most new blocks. No condition. -/
import Derived.Test.YtbgmadijifefiaaKEftLittleEftSumsW
import Derived.Test.YtbgmadijifefiaaKEftLittleProdsLaw
namespace Go.Proofs.Ytbgmadijifefiaa.EftLittleW
open Go.RowKit Go.Proofs.YtbgmadijifefiaaW.PrintWords Go.Proofs.YtbgmadijifefiaaW.PrintMore Go.Proofs.Ytbgmadijifefiaa.Num Go.Proofs.Ytbgmadijifefiaa.PLib Go.Proofs.Ytbgmadijifefiaa.FW Go.Proofs.Ytbgmadijifefiaa.Eft Go.Proofs.Ytbgmadijifefiaa.EftLaw Go.Proofs.Ytbgmadijifefiaa.Awake Go.Proofs.Ytbgmadijifefiaa.SumsLaw Go.Proofs.Ytbgmadijifefiaa.ProdsLaw Go.Proofs.Ytbgmadijifefiaa.EftSumsW Fl
theorem on {W w w' : World} (h : Below W.heap.size W w) (k : Below w.heap.size w w') : Below W.heap.size W w' := h.trans (k.mono h.size)
theorem atMost22 (a : Nat) : ∃ c : Bool, (c = true → sz a ≤ 2045 * 2^52) ∧ gnomonref19_AtMost.f (a : Int) 1022 = some c :=
  ⟨_, fun h => of_decide_eq_true h, atMost_f a 1022 (by decide)⟩
set_option maxHeartbeats 2000000 in
theorem walk (a0 a1 : Int) (W : World) (w0 : (Lit.int .u64 a0).wf = true) (w1 : (Lit.int .u64 a1).wf = true) :
    Calls Try.prog 7 #[.int .u64 a0, .int .u64 a1] W fun e w' => e = .returned (.bool true) ∧ Below W.heap.size W w' := by
  obtain ⟨a, rfl, ha⟩ := wf_u64 w0
  obtain ⟨b, rfl, hb⟩ := wf_u64 w1
  clear w0 w1
  obtain ⟨g, hg⟩ : ∃ g, g = 1074 := ⟨_, rfl⟩
  obtain ⟨c1, hc1, hA⟩ := atMost22 a
  obtain ⟨c2, hc2, hB⟩ := atMost22 b
  obtain ⟨c3, hc3, hF⟩ := fair_ev hg ha hb
  obtain ⟨kf, hF⟩ := hF.rounds
  have H1 := Lib.hid hc1
  have H2 := Lib.hid hc2
  have H3 := Lib.hid hc3
  have HA := Lib.hid hA
  have HB' := Lib.hid hB
  have HF := Lib.hid hF
  clear hc1 hc2 hc3 hA hB hF
  go_enter Try.func7, Try.ntmps7
  go_wp2_with fail
  refine (awake_any _).mono ?_
  rintro e0 v0 ⟨rfl, hd⟩
  have HB := Lib.hid hd.below
  clear hd
  go_wp2_with fail
  refine (sum_any _ _ _).mono ?_
  rintro e1 v1 ⟨s, t, rfl, hr, hs, ht, hd⟩
  rw [Int.toNat_natCast, Int.toNat_natCast] at hr
  have HB := Lib.hid (on HB.out hd.below)
  have HR := Lib.hid hr
  clear hd hr
  go_wp2_with fail
  refine (prodw_any _ _ _).mono ?_
  rintro e2 v2 ⟨p, q, rfl, hr, hp, hq, hd⟩
  rw [Int.toNat_natCast, Int.toNat_natCast] at hr
  have HB := Lib.hid (on HB.out hd.below)
  have HP := Lib.hid hr
  clear hd hr
  go_wp2_with fail
  refine (gnomonref19_AtMost.calls _ _ c1 _ HA.out).mono ?_
  rintro e4 v4 ⟨rfl, hd⟩
  have HB := Lib.hid (on HB.out hd.below)
  clear hd
  cases c1 with
  | false =>
    go_wp2_with fail
    refine (gnomonref19_Fair.calls kf _ _ c3 _ HF.out).mono ?_
    rintro e5 v5 ⟨rfl, hd⟩
    have HB := Lib.hid (on HB.out hd)
    clear hd
    cases c3 with
    | false =>
      go_wp2_with fail
      go_ret
      exact ⟨rfl, HB.out⟩
    | true =>
      have hl := fair_law hg HP.out (H3.out.1 (by trivial))
      obtain ⟨k, hk⟩ := (little_true hp hq hl.1.fin hl.2.1 hl.2.2.2.2).rounds
      have HK := Lib.hid hk
      clear hk hl
      go_wp2_with fail
      refine (gnomonref19_Little.calls k _ _ true _ HK.out).mono ?_
      rintro e6 v6 ⟨rfl, hd⟩
      have HB := Lib.hid (on HB.out hd)
      clear hd
      go_wp2_with fail
      go_ret
      exact ⟨rfl, HB.out⟩
  | true =>
    go_wp2_with fail
    refine (gnomonref19_AtMost.calls _ _ c2 _ HB'.out).mono ?_
    rintro e7 v7 ⟨rfl, hd⟩
    have HB := Lib.hid (on HB.out hd.below)
    clear hd
    cases c2 with
    | false =>
      go_wp2_with fail
      refine (gnomonref19_Fair.calls kf _ _ c3 _ HF.out).mono ?_
      rintro e5 v5 ⟨rfl, hd⟩
      have HB := Lib.hid (on HB.out hd)
      clear hd
      cases c3 with
      | false =>
        go_wp2_with fail
        go_ret
        exact ⟨rfl, HB.out⟩
      | true =>
        have hl := fair_law hg HP.out (H3.out.1 (by trivial))
        obtain ⟨k, hk⟩ := (little_true hp hq hl.1.fin hl.2.1 hl.2.2.2.2).rounds
        have HK := Lib.hid hk
        clear hk hl
        go_wp2_with fail
        refine (gnomonref19_Little.calls k _ _ true _ HK.out).mono ?_
        rintro e6 v6 ⟨rfl, hd⟩
        have HB := Lib.hid (on HB.out hd)
        clear hd
        go_wp2_with fail
        go_ret
        exact ⟨rfl, HB.out⟩
    | true =>
      have hl := twoSum_law HR.out (H1.out (by trivial)) (H2.out (by trivial))
      obtain ⟨k, hk⟩ := (little_true hs ht hl.1.fin hl.2.1.fin (sum_little hl)).rounds
      have HK := Lib.hid hk
      clear hk hl
      go_wp2_with fail
      refine (gnomonref19_Little.calls k _ _ true _ HK.out).mono ?_
      rintro e8 v8 ⟨rfl, hd⟩
      have HB := Lib.hid (on HB.out hd)
      clear hd HK
      go_wp2_with fail
      refine (gnomonref19_Fair.calls kf _ _ c3 _ HF.out).mono ?_
      rintro e5 v5 ⟨rfl, hd⟩
      have HB := Lib.hid (on HB.out hd)
      clear hd
      cases c3 with
      | false =>
        go_wp2_with fail
        go_ret
        exact ⟨rfl, HB.out⟩
      | true =>
        have hl := fair_law hg HP.out (H3.out.1 (by trivial))
        obtain ⟨k, hk⟩ := (little_true hp hq hl.1.fin hl.2.1 hl.2.2.2.2).rounds
        have HK := Lib.hid hk
        clear hk hl
        go_wp2_with fail
        refine (gnomonref19_Little.calls k _ _ true _ HK.out).mono ?_
        rintro e6 v6 ⟨rfl, hd⟩
        have HB := Lib.hid (on HB.out hd)
        clear hd
        go_wp2_with fail
        go_ret
        exact ⟨rfl, HB.out⟩
end Go.Proofs.Ytbgmadijifefiaa.EftLittleW
