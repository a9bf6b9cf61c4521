/- The walk of the law EftSplits: the call returns true, and the world has at most new blocks. No condition. -/
import Derived.Test.YtbgmadijifefiaaKEftSplitsEftSumsW
import Derived.Test.YtbgmadijifefiaaKEftSplitsProdLaw
import Derived.Test.YtbgmadijifefiaaKEftSplitsRefG
import Derived.Test.YtbgmadijifefiaaKEftSplitsPLibx11
namespace Go.Proofs.Ytbgmadijifefiaa.EftSplitsW
open Go.RowKit Go.Proofs.YtbgmadijifefiaaW.PrintWords Go.Proofs.YtbgmadijifefiaaW.PrintMore Go.Proofs.Ytbgmadijifefiaa.Num Go.Proofs.Ytbgmadijifefiaa.PLib Go.Proofs.Ytbgmadijifefiaa.Ref Go.Proofs.Ytbgmadijifefiaa.FW Go.Proofs.Ytbgmadijifefiaa.Eft Go.Proofs.Ytbgmadijifefiaa.EftLaw Go.Proofs.Ytbgmadijifefiaa.Awake Go.Proofs.Ytbgmadijifefiaa.SumsLaw Go.Proofs.Ytbgmadijifefiaa.EftSumsW Fl
theorem hx_small {v : Int} (h : v.natAbs ≤ 2^24 * T0) : hx 0 v ≤ 3000 := by
  by_cases h0 : hx 0 v = 0
  · omega
  · have h1 := hx_le h0
    have h2 : 2^25 * 2^(hx 0 v) ≤ v.natAbs := by exact_mod_cast h1
    have h3 : 2^(hx 0 v) < 2^TE := by
      have : T0 = 2^TE := rfl
      have := T0_pos
      omega
    have h4 := (Nat.pow_lt_pow_iff_right (a := 2) (by decide)).1 h3
    have := TE_eq
    omega
theorem low_short {j i : Nat} {l : Int} (h : 2 * (l.natAbs : Int) ≤ 2^j) (hij : j ≤ i + 27) : l.natAbs ≤ 2^(26 + i) := by
  have h1 : 2 * l.natAbs ≤ 2^j := by exact_mod_cast h
  have h2 := Nat.pow_le_pow_right (n := 2) (by decide) hij
  have e : 2^(i + 27) = 2 * 2^(26 + i) := by rw [show i + 27 = (26 + i) + 1 by omega, Nat.pow_succ, Nat.mul_comm]
  omega
theorem splits_true {a h l : Nat} (ha : a < 18446744073709551616) (hh : h < 18446744073709551616) (hl : l < 18446744073709551616)
    (hR : SplitR a h l) : Ev (fun k => gnomonref19_Splits.f k (a : Int) (h : Int) (l : Int)) true := by
  have hA := atMost_f a 995 (by decide)
  unfold gnomonref19_Splits.f
  rw [show (995 : Int) = ((995 : Nat) : Int) from rfl]
  simp only [hA, Option.bind_some]
  by_cases c1 : sz a ≤ (995 + 1023) * 2^52
  · obtain ⟨fa, fh, fl, ba, cut⟩ := split_law hR c1
    simp only [decide_eq_true c1, if_true, finite_f fh, finite_f fl, Option.bind_some, Bool.not_true]
    have za := Zs_top0 (U_top fa)
    have zh := Zs_top0 (U_top fh)
    have zl' := Zs_top0 (U_top fl)
    refine Ev.step (f := fun k => (gnomonref19_Units.f k (h : Int)).bind fun x => (gnomonref19_Units.f k (l : Int)).bind fun y => (gnomonref19_Units.f k (a : Int)).bind fun v => (gnomonref04_Sign.f v.1 v.2).bind fun t471 => (if t471 = 0 then ((gnomonref04_Sign.f x.1 x.2).bind fun t472 => (if t472 = 0 then ((gnomonref04_Sign.f y.1 y.2).bind fun t473 => (some (t473 == 0))) else (some false))) else ((gnomonref04_Add.f k x.1 x.2 y.1 y.2).bind fun z => ((gnomonref04_Cmp.f k z.1 z.2 v.1 v.2).bind fun t478 => (if t478 = 0 then ((gnomonref19_short.f k x.1 x.2 26).bind fun t479 => (if t479 = true then ((gnomonref19_short.f k y.1 y.2 26).bind fun t480 => (if t480 = true then ((gnomonref01_Shl.f k y.2 26).bind fun t481 => ((gnomonref01_Cmp.f k t481 v.2).bind fun t484 => (some (decide (t484 < 0))))) else (some false))) else (some false))) else (some false)))))) (fun k => by simp only [gnomonref19_Splits.j0]; rw [if_neg (by decide)]) ?_
    refine Ev.bind (units_ev h hh) (Ev.bind (units_ev l hl) (Ev.bind (units_ev a ha) ?_))
    simp only [zsign, Option.bind_some]
    have hsum := cut.sum
    by_cases h0 : U a = 0
    · have hl0 : U l = 0 := by rcases cut.small with h | h; exact h.2; omega
      have hh0 : U h = 0 := by omega
      rw [h0, hl0, hh0]
      exact Ev.now _
    · have s0 : ¬ sgn (U a) = 0 := by unfold sgn; rw [if_neg h0]; split <;> omega
      simp only [if_neg s0]
      refine Ev.bind (zadd_ev (U h) (U l) zh zl' (by rw [hsum]; exact za)) ?_
      rw [hsum]
      have hcmp := zcmp_ev (U a) (U a) za za (by rw [Int.sub_self]; exact Zs_of (k := 1) (by decide) (by decide))
      rw [Int.sub_self] at hcmp
      refine Ev.bind hcmp ?_
      have e0 : sgn 0 = 0 := rfl
      simp only [e0, if_true]
      have hx3 := hx_small ba
      have hk := hx_ke 0 (U a)
      refine Ev.bind (short_ev (U h) (hx 0 (U a)) (natAbs_dvd'.1 cut.top) (by rw [Nat.pow_add]; exact_mod_cast cut.high) (by omega)) ?_
      simp only [if_true]
      refine Ev.bind (short_ev (U l) (ke 0 (U a)) (natAbs_dvd'.1 cut.place) (low_short cut.low hk.2) (by omega)) ?_
      simp only [if_true]
      have hsm : (U l).natAbs * 2^26 < (U a).natAbs := by rcases cut.small with h | h <;> omega
      have za' : (dg (U a).natAbs).length < 274877906944 := za
      have hml := dg_len_mono (Nat.le_of_lt hsm)
      have hshl : Ev (fun k => gnomonref01_Shl.f k (zl (U l)) 26) (dg ((U l).natAbs * 2^26)) := shl_ev (U l).natAbs 26 zl' (by decide)
      have hcm : Ev (fun k => gnomonref01_Cmp.f k (dg ((U l).natAbs * 2^26)) (zl (U a))) (cmp3 ((U l).natAbs * 2^26) (U a).natAbs) := cmp_ev ((U l).natAbs * 2^26) (U a).natAbs (by omega) (by omega)
      rw [cmp3_lt hsm] at hcm
      refine Ev.bind hshl (Ev.bind hcm ?_)
      exact Ev.now _
  · simp only [decide_eq_false c1, Bool.false_eq_true, if_false]
    exact Ev.now _
set_option maxHeartbeats 1000000 in
theorem walk (a0 : Int) (W : World) (w0 : (Lit.int .u64 a0).wf = true) :
    Calls Try.prog 5 #[.int .u64 a0] W fun e w' => e = .returned (.bool true) ∧ Below W.heap.size W w' := by
  obtain ⟨a, rfl, ha⟩ := wf_u64 w0
  clear w0
  go_enter Try.func5, Try.ntmps5
  go_wp2_with fail
  refine (splitw_any _ _).mono ?_
  rintro e1 v1 ⟨s, t, rfl, hr, hs, ht, hd⟩
  rw [Int.toNat_natCast] at hr
  obtain ⟨k, hk⟩ := (splits_true ha hs ht hr).rounds
  have HK := Lib.hid hk
  clear hk hr
  go_wp2_with fail
  refine (awake_any _).mono ?_
  rintro e2 v2 ⟨rfl, hd2⟩
  go_wp2_with fail
  refine (gnomonref19_Splits.calls k _ _ _ true _ HK.out).mono ?_
  rintro e3 v3 ⟨rfl, hb3⟩
  go_wp2_with fail
  go_ret
  have h12 := hd2.to_below hd.below
  exact ⟨rfl, h12.trans (hb3.mono h12.size)⟩
end Go.Proofs.Ytbgmadijifefiaa.EftSplitsW
