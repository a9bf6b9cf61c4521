/- The walk of the law EftSides: the call returns true, and the world has at most new blocks. No condition. -/
import Derived.Test.YtbgmadijifefiaaKEftSidesEftFastsW
import Derived.Test.YtbgmadijifefiaaKEftSidesProdsLaw
namespace Go.Proofs.Ytbgmadijifefiaa.EftSidesW
open Go.RowKit Go.Proofs.YtbgmadijifefiaaW.PrintWords Go.Proofs.YtbgmadijifefiaaW.PrintMore Go.Proofs.Ytbgmadijifefiaa.Num Go.Proofs.Ytbgmadijifefiaa.PLib Go.Proofs.Ytbgmadijifefiaa.FW Go.Proofs.Ytbgmadijifefiaa.Eft Go.Proofs.Ytbgmadijifefiaa.EftLaw Go.Proofs.Ytbgmadijifefiaa.Awake Go.Proofs.Ytbgmadijifefiaa.SumsLaw Go.Proofs.Ytbgmadijifefiaa.ProdsLaw Go.Proofs.Ytbgmadijifefiaa.EftSumsW Go.Proofs.Ytbgmadijifefiaa.EftFastsW Fl
def flip (a : Nat) : Nat := a ^^^ 9223372036854775808
theorem xor_int (a : Nat) (h : a < 18446744073709551616) : bits .xor .u64 (a : Int) 9223372036854775808 = ((flip a : Nat) : Int) := bits_xor_u64_nat a 9223372036854775808 h (by decide)
theorem flip_lt {a : Nat} (h : a < 18446744073709551616) : flip a < 18446744073709551616 := Nat.xor_lt_two_pow (n := 64) (by omega) (by omega)
theorem sz_flip (a : Nat) : sz (flip a) = sz a := by
  unfold sz flip
  rw [Nat.xor_mod_two_pow]
  have : 9223372036854775808 % 2^63 = 0 := by decide
  rw [this, Nat.xor_zero]
theorem div_flip (a : Nat) : flip a / 2^63 = (a / 2^63) ^^^ 1 := by
  unfold flip
  rw [Nat.xor_div_two_pow]
theorem U_flip {a : Nat} (h : a < 18446744073709551616) : U (flip a) = -U a := by
  have h1 := div_flip a
  have h2 : a / 2^63 = 0 ∨ a / 2^63 = 1 := by omega
  unfold U
  rw [sz_flip]
  rcases h2 with h2 | h2
  · have n1 : ng a = false := by unfold ng; rw [h2]; rfl
    have n2 : ng (flip a) = true := by unfold ng; rw [h1, h2]; rfl
    rw [n1, n2, if_pos rfl, if_neg (by decide)]
  · have n1 : ng a = true := by unfold ng; rw [h2]; rfl
    have n2 : ng (flip a) = false := by unfold ng; rw [h1, h2]; rfl
    rw [n1, n2, if_pos rfl, if_neg (by decide), Int.neg_neg]
theorem two {v : Int} {s e : Nat} (h : Is 0 v s ∧ Is 0 (v - U s) e ∧ U s + U e = v) : U s = rnI 0 v ∧ U e = v - rnI 0 v := by
  have := val0 h.1
  have := h.2.2
  omega
abbrev Sm (x y : Int) : Prop := gnomonref19_Same.f x y = some true
theorem sm {x y : Nat} (hx : x < 18446744073709551616) (hy : y < 18446744073709551616) (h : U x = U y) : Sm (x : Int) (y : Int) := same_f (U_inj hx hy h)
theorem smx {x y : Nat} (hx : x < 18446744073709551616) (hy : y < 18446744073709551616) (h : U x = -U y) : Sm (bits .xor .u64 (x : Int) 9223372036854775808) (y : Int) := by
  unfold Sm
  rw [xor_int x hx]
  exact sm (flip_lt hx) hy (by rw [U_flip hx]; omega)
theorem sum_sides {a b s e t f u g : Nat} (ha : a < 18446744073709551616) (hb : b < 18446744073709551616) (hs : s < 18446744073709551616) (he : e < 18446744073709551616) (ht : t < 18446744073709551616) (hf : f < 18446744073709551616) (hu : u < 18446744073709551616) (hg : g < 18446744073709551616)
    (h1 : TwoSumR a b s e) (h2 : TwoSumR b a t f) (h3 : TwoSumR (flip a) (flip b) u g) (ca : sz a ≤ 2045 * 2^52) (cb : sz b ≤ 2045 * 2^52) :
    Sm s t ∧ Sm e f ∧ Sm (bits .xor .u64 (u : Int) 9223372036854775808) s ∧ Sm (bits .xor .u64 (g : Int) 9223372036854775808) e := by
  obtain ⟨v1, w1⟩ := two (twoSum_law h1 ca cb)
  obtain ⟨v2, w2⟩ := two (twoSum_law h2 cb ca)
  obtain ⟨v3, w3⟩ := two (twoSum_law h3 (by rw [sz_flip]; exact ca) (by rw [sz_flip]; exact cb))
  have e1 : U b + U a = U a + U b := Int.add_comm _ _
  have e2 : U (flip a) + U (flip b) = -(U a + U b) := by rw [U_flip ha, U_flip hb]; omega
  rw [e1] at v2 w2
  rw [e2] at v3 w3
  rw [rnI_neg] at v3 w3
  exact ⟨sm hs ht (by omega), sm he hf (by omega), smx hu hs (by omega), smx hg he (by omega)⟩
theorem fast_sides {a b s e v h : Nat} (hs : s < 18446744073709551616) (he : e < 18446744073709551616) (hv : v < 18446744073709551616) (hh : h < 18446744073709551616)
    (h1 : TwoSumR a b s e) (h2 : FastR a b v h) (hc : sz a ≤ 2045 * 2^52 ∧ sz b ≤ 2045 * 2^52 ∧ (sz a = 0 ∨ sz b ≤ sz a)) : Sm v s ∧ Sm h e := by
  obtain ⟨v1, w1⟩ := two (twoSum_law h1 hc.1 hc.2.1)
  obtain ⟨v2, w2⟩ := two (fast_law h2 hc.1 hc.2.1 hc.2.2)
  exact ⟨sm hv hs (by omega), sm hh he (by omega)⟩
theorem cancel {g : Nat} {x y : Int} (h : x * 2^g = y * 2^g) : x = y := Int.eq_of_mul_eq_mul_right (by have := ipw g; omega) h
theorem prod_sides {n a b p e q f m g : Nat} (hn : n = 1074) (ha : a < 18446744073709551616) (hp : p < 18446744073709551616) (he : e < 18446744073709551616) (hq : q < 18446744073709551616) (hf : f < 18446744073709551616) (hm : m < 18446744073709551616) (hg : g < 18446744073709551616)
    (h1 : ProdR a b p e) (h2 : ProdR b a q f) (h3 : ProdR (flip a) b m g) (hF : FairP n a b) :
    Sm p q ∧ Sm e f ∧ Sm (bits .xor .u64 (m : Int) 9223372036854775808) p ∧ Sm (bits .xor .u64 (g : Int) 9223372036854775808) e := by
  have e1 : U b * U a = U a * U b := Int.mul_comm _ _
  have e2 : U (flip a) * U b = -(U a * U b) := by rw [U_flip ha, Int.neg_mul]
  have F2 : FairP n b a := by
    unfold FairP at *
    rw [e1]; exact ⟨hF.2.1, hF.1, hF.2.2⟩
  have F3 : FairP n (flip a) b := by
    unfold FairP at *
    rw [e2, sz_flip, Int.natAbs_neg]
    exact ⟨hF.1, hF.2.1, hF.2.2.imp (fun h => by omega) id⟩
  have l1 := fair_law hn h1 hF
  have l2 := fair_law hn h2 F2
  have l3 := fair_law hn h3 F3
  have p1 := l1.1.val
  have p2 := l2.1.val
  have p3 := l3.1.val
  have s1 := l1.2.2.2.1
  have s2 := l2.2.2.2.1
  have s3 := l3.2.2.2.1
  rw [e1] at p2 s2
  rw [e2] at p3 s3
  rw [rnI_neg, ← p1, ← Int.neg_mul] at p3
  rw [← s1, ← Int.neg_mul] at s3
  have x1 := cancel (p1.trans p2.symm)
  have x2 := cancel (s1.trans s2.symm)
  have x3 := cancel p3
  have x4 := cancel s3
  exact ⟨sm hp hq x1, sm he hf (by omega), smx hm hp x3, smx hg he (by omega)⟩
theorem atMost22 (a : Nat) : ∃ c : Bool, (c = true → sz a ≤ 2045 * 2^52) ∧ gnomonref19_AtMost.f (a : Int) 1022 = some c :=
  ⟨_, fun h => of_decide_eq_true h, atMost_f a 1022 (by decide)⟩
set_option maxHeartbeats 4000000 in
theorem walk (a0 a1 : Int) (W : World) (w0 : (Lit.int .u64 a0).wf = true) (w1 : (Lit.int .u64 a1).wf = true) :
    Calls Try.prog 9 #[.int .u64 a0, .int .u64 a1] W fun e w' => e = .returned (.bool true) ∧ Below W.heap.size W w' := by
  obtain ⟨a, rfl, ha⟩ := wf_u64 w0
  obtain ⟨b, rfl, hb⟩ := wf_u64 w1
  clear w0 w1
  obtain ⟨g, hg⟩ : ∃ g, g = 1074 := ⟨_, rfl⟩
  obtain ⟨c1, hc1, hA⟩ := atMost22 a
  obtain ⟨c2, hc2, hB⟩ := atMost22 b
  obtain ⟨c3, hc3, hF⟩ := fair_ev hg ha hb
  obtain ⟨kf, hF⟩ := hF.rounds
  have hah := ahead_f a b
  obtain ⟨c4, hc4⟩ : ∃ c : Bool, c = decide (sz a ≤ 2045 * 2^52 ∧ sz b ≤ 2045 * 2^52 ∧ (sz a = 0 ∨ sz b ≤ sz a)) := ⟨_, rfl⟩
  rw [← hc4] at hah
  have H1 := Lib.hid hc1
  have H2 := Lib.hid hc2
  have H3 := Lib.hid hc3
  have H4 := Lib.hid hc4
  have HA := Lib.hid hA
  have HB' := Lib.hid hB
  have HF := Lib.hid hF
  have HH := Lib.hid hah
  clear hc1 hc2 hc3 hc4 hA hB hF hah
  have hxa := xor_int a ha
  have hxb := xor_int b hb
  go_enter Try.func9, Try.ntmps9
  go_wp2_with fail
  refine (awake_any _).mono ?_
  rintro e0 v0 ⟨rfl, hd⟩
  have HB := Lib.hid hd.below
  clear hd
  go_wp2_with fail
  refine (gnomonref19_AtMost.calls _ _ c1 _ HA.out).mono ?_
  rintro e4 v4 ⟨rfl, hd⟩
  have HB := Lib.hid (on HB.out hd.below)
  clear hd
  cases c1 with
  | false =>
    go_wp2_with fail
    refine (gnomonref19_Fair.calls kf _ _ c3 _ HF.out).mono ?_
    rintro ef vf ⟨rfl, hd⟩
    have HB := Lib.hid (on HB.out hd)
    clear hd
    cases c3 with
    | false =>
      go_wp2_with fail
      go_ret
      exact ⟨rfl, HB.out⟩
    | true =>
      go_wp2_with fail
      (try rw [hxa])
      refine (prodw_any _ _ _).mono ?_
      rintro ep0 vp0 ⟨p0, q0, rfl, hr, hp0, hq0, hd⟩
      rw [Int.toNat_natCast, Int.toNat_natCast] at hr
      have HB := Lib.hid (on HB.out hd.below)
      have HP0 := Lib.hid hr
      clear hd hr
      go_wp2_with fail
      (try rw [hxa])
      refine (prodw_any _ _ _).mono ?_
      rintro ep1 vp1 ⟨p1, q1, rfl, hr, hp1, hq1, hd⟩
      rw [Int.toNat_natCast, Int.toNat_natCast] at hr
      have HB := Lib.hid (on HB.out hd.below)
      have HP1 := Lib.hid hr
      clear hd hr
      go_wp2_with fail
      (try rw [hxa])
      refine (prodw_any _ _ _).mono ?_
      rintro ep2 vp2 ⟨p2, q2, rfl, hr, hp2, hq2, hd⟩
      rw [Int.toNat_natCast, Int.toNat_natCast] at hr
      have HB := Lib.hid (on HB.out hd.below)
      have HP2 := Lib.hid hr
      clear hd hr
      have hF := H3.out.1 (by trivial)
      obtain ⟨S1, S2, S3, S4⟩ := prod_sides hg ha hp0 hq0 hp1 hq1 hp2 hq2 HP0.out HP1.out HP2.out hF
      have S1 := Lib.hid S1
      have S2 := Lib.hid S2
      have S3 := Lib.hid S3
      have S4 := Lib.hid S4
      go_wp2_with fail
      refine (gnomonref19_Same.calls _ _ true _ S1.out).mono ?_
      rintro es0 vs0 ⟨rfl, hd⟩
      have HB := Lib.hid (on HB.out hd.below)
      clear hd
      go_wp2_with fail
      refine (gnomonref19_Same.calls _ _ true _ S2.out).mono ?_
      rintro es1 vs1 ⟨rfl, hd⟩
      have HB := Lib.hid (on HB.out hd.below)
      clear hd
      go_wp2_with fail
      refine (gnomonref19_Same.calls _ _ true _ S3.out).mono ?_
      rintro es2 vs2 ⟨rfl, hd⟩
      have HB := Lib.hid (on HB.out hd.below)
      clear hd
      go_wp2_with fail
      refine (gnomonref19_Same.calls _ _ true _ S4.out).mono ?_
      rintro es3 vs3 ⟨rfl, hd⟩
      have HB := Lib.hid (on HB.out hd.below)
      clear hd
      go_wp2_with fail
      go_ret
      exact ⟨rfl, HB.out⟩
  | true =>
    go_wp2_with fail
    refine (gnomonref19_AtMost.calls _ _ c2 _ HB'.out).mono ?_
    rintro e7 v7 ⟨rfl, hd⟩
    have HB := Lib.hid (on HB.out hd.below)
    clear hd
    cases c2 with
    | false =>
      go_wp2_with fail
      refine (gnomonref19_Fair.calls kf _ _ c3 _ HF.out).mono ?_
      rintro ef vf ⟨rfl, hd⟩
      have HB := Lib.hid (on HB.out hd)
      clear hd
      cases c3 with
      | false =>
        go_wp2_with fail
        go_ret
        exact ⟨rfl, HB.out⟩
      | true =>
        go_wp2_with fail
        (try rw [hxa])
        refine (prodw_any _ _ _).mono ?_
        rintro ep0 vp0 ⟨p0, q0, rfl, hr, hp0, hq0, hd⟩
        rw [Int.toNat_natCast, Int.toNat_natCast] at hr
        have HB := Lib.hid (on HB.out hd.below)
        have HP0 := Lib.hid hr
        clear hd hr
        go_wp2_with fail
        (try rw [hxa])
        refine (prodw_any _ _ _).mono ?_
        rintro ep1 vp1 ⟨p1, q1, rfl, hr, hp1, hq1, hd⟩
        rw [Int.toNat_natCast, Int.toNat_natCast] at hr
        have HB := Lib.hid (on HB.out hd.below)
        have HP1 := Lib.hid hr
        clear hd hr
        go_wp2_with fail
        (try rw [hxa])
        refine (prodw_any _ _ _).mono ?_
        rintro ep2 vp2 ⟨p2, q2, rfl, hr, hp2, hq2, hd⟩
        rw [Int.toNat_natCast, Int.toNat_natCast] at hr
        have HB := Lib.hid (on HB.out hd.below)
        have HP2 := Lib.hid hr
        clear hd hr
        have hF := H3.out.1 (by trivial)
        obtain ⟨S1, S2, S3, S4⟩ := prod_sides hg ha hp0 hq0 hp1 hq1 hp2 hq2 HP0.out HP1.out HP2.out hF
        have S1 := Lib.hid S1
        have S2 := Lib.hid S2
        have S3 := Lib.hid S3
        have S4 := Lib.hid S4
        go_wp2_with fail
        refine (gnomonref19_Same.calls _ _ true _ S1.out).mono ?_
        rintro es0 vs0 ⟨rfl, hd⟩
        have HB := Lib.hid (on HB.out hd.below)
        clear hd
        go_wp2_with fail
        refine (gnomonref19_Same.calls _ _ true _ S2.out).mono ?_
        rintro es1 vs1 ⟨rfl, hd⟩
        have HB := Lib.hid (on HB.out hd.below)
        clear hd
        go_wp2_with fail
        refine (gnomonref19_Same.calls _ _ true _ S3.out).mono ?_
        rintro es2 vs2 ⟨rfl, hd⟩
        have HB := Lib.hid (on HB.out hd.below)
        clear hd
        go_wp2_with fail
        refine (gnomonref19_Same.calls _ _ true _ S4.out).mono ?_
        rintro es3 vs3 ⟨rfl, hd⟩
        have HB := Lib.hid (on HB.out hd.below)
        clear hd
        go_wp2_with fail
        go_ret
        exact ⟨rfl, HB.out⟩
    | true =>
      go_wp2_with fail
      (try rw [hxa, hxb])
      refine (sum_any _ _ _).mono ?_
      rintro eq0 vq0 ⟨s0, t0, rfl, hr, hs0, ht0, hd⟩
      rw [Int.toNat_natCast, Int.toNat_natCast] at hr
      have HB := Lib.hid (on HB.out hd.below)
      have HS0 := Lib.hid hr
      clear hd hr
      go_wp2_with fail
      (try rw [hxa, hxb])
      refine (sum_any _ _ _).mono ?_
      rintro eq1 vq1 ⟨s1, t1, rfl, hr, hs1, ht1, hd⟩
      rw [Int.toNat_natCast, Int.toNat_natCast] at hr
      have HB := Lib.hid (on HB.out hd.below)
      have HS1 := Lib.hid hr
      clear hd hr
      go_wp2_with fail
      (try rw [hxa, hxb])
      refine (sum_any _ _ _).mono ?_
      rintro eq2 vq2 ⟨s2, t2, rfl, hr, hs2, ht2, hd⟩
      rw [Int.toNat_natCast, Int.toNat_natCast] at hr
      have HB := Lib.hid (on HB.out hd.below)
      have HS2 := Lib.hid hr
      clear hd hr
      obtain ⟨S1, S2, S3, S4⟩ := sum_sides ha hb hs0 ht0 hs1 ht1 hs2 ht2 HS0.out HS1.out HS2.out (H1.out (by trivial)) (H2.out (by trivial))
      have S1 := Lib.hid S1
      have S2 := Lib.hid S2
      have S3 := Lib.hid S3
      have S4 := Lib.hid S4
      go_wp2_with fail
      refine (gnomonref19_Same.calls _ _ true _ S1.out).mono ?_
      rintro er0 vr0 ⟨rfl, hd⟩
      have HB := Lib.hid (on HB.out hd.below)
      clear hd
      go_wp2_with fail
      refine (gnomonref19_Same.calls _ _ true _ S2.out).mono ?_
      rintro er1 vr1 ⟨rfl, hd⟩
      have HB := Lib.hid (on HB.out hd.below)
      clear hd
      go_wp2_with fail
      refine (gnomonref19_Same.calls _ _ true _ S3.out).mono ?_
      rintro er2 vr2 ⟨rfl, hd⟩
      have HB := Lib.hid (on HB.out hd.below)
      clear hd
      go_wp2_with fail
      refine (gnomonref19_Same.calls _ _ true _ S4.out).mono ?_
      rintro er3 vr3 ⟨rfl, hd⟩
      have HB := Lib.hid (on HB.out hd.below)
      clear hd
      go_wp2_with fail
      clear S1 S2 S3 S4
      refine (gnomonref19_Ahead.calls _ _ c4 _ HH.out).mono ?_
      rintro e9 v9 ⟨rfl, hd⟩
      have HB := Lib.hid (on HB.out hd.below)
      clear hd
      cases c4 with
      | false =>
        go_wp2_with fail
        refine (gnomonref19_Fair.calls kf _ _ c3 _ HF.out).mono ?_
        rintro ef vf ⟨rfl, hd⟩
        have HB := Lib.hid (on HB.out hd)
        clear hd
        cases c3 with
        | false =>
          go_wp2_with fail
          go_ret
          exact ⟨rfl, HB.out⟩
        | true =>
          go_wp2_with fail
          (try rw [hxa])
          refine (prodw_any _ _ _).mono ?_
          rintro ep0 vp0 ⟨p0, q0, rfl, hr, hp0, hq0, hd⟩
          rw [Int.toNat_natCast, Int.toNat_natCast] at hr
          have HB := Lib.hid (on HB.out hd.below)
          have HP0 := Lib.hid hr
          clear hd hr
          go_wp2_with fail
          (try rw [hxa])
          refine (prodw_any _ _ _).mono ?_
          rintro ep1 vp1 ⟨p1, q1, rfl, hr, hp1, hq1, hd⟩
          rw [Int.toNat_natCast, Int.toNat_natCast] at hr
          have HB := Lib.hid (on HB.out hd.below)
          have HP1 := Lib.hid hr
          clear hd hr
          go_wp2_with fail
          (try rw [hxa])
          refine (prodw_any _ _ _).mono ?_
          rintro ep2 vp2 ⟨p2, q2, rfl, hr, hp2, hq2, hd⟩
          rw [Int.toNat_natCast, Int.toNat_natCast] at hr
          have HB := Lib.hid (on HB.out hd.below)
          have HP2 := Lib.hid hr
          clear hd hr
          have hF := H3.out.1 (by trivial)
          obtain ⟨S1, S2, S3, S4⟩ := prod_sides hg ha hp0 hq0 hp1 hq1 hp2 hq2 HP0.out HP1.out HP2.out hF
          have S1 := Lib.hid S1
          have S2 := Lib.hid S2
          have S3 := Lib.hid S3
          have S4 := Lib.hid S4
          go_wp2_with fail
          refine (gnomonref19_Same.calls _ _ true _ S1.out).mono ?_
          rintro es0 vs0 ⟨rfl, hd⟩
          have HB := Lib.hid (on HB.out hd.below)
          clear hd
          go_wp2_with fail
          refine (gnomonref19_Same.calls _ _ true _ S2.out).mono ?_
          rintro es1 vs1 ⟨rfl, hd⟩
          have HB := Lib.hid (on HB.out hd.below)
          clear hd
          go_wp2_with fail
          refine (gnomonref19_Same.calls _ _ true _ S3.out).mono ?_
          rintro es2 vs2 ⟨rfl, hd⟩
          have HB := Lib.hid (on HB.out hd.below)
          clear hd
          go_wp2_with fail
          refine (gnomonref19_Same.calls _ _ true _ S4.out).mono ?_
          rintro es3 vs3 ⟨rfl, hd⟩
          have HB := Lib.hid (on HB.out hd.below)
          clear hd
          go_wp2_with fail
          go_ret
          exact ⟨rfl, HB.out⟩
      | true =>
        go_wp2_with fail
        refine (fastw_any _ _ _).mono ?_
        rintro ef0 vf0 ⟨sf, tf, rfl, hr, hsf, htf, hd⟩
        rw [Int.toNat_natCast, Int.toNat_natCast] at hr
        have HB := Lib.hid (on HB.out hd.below)
        obtain ⟨S1, S2⟩ := fast_sides hs0 ht0 hsf htf HS0.out hr (of_decide_eq_true H4.out.symm)
        have S1 := Lib.hid S1
        have S2 := Lib.hid S2
        clear hd hr
        go_wp2_with fail
        refine (gnomonref19_Same.calls _ _ true _ S1.out).mono ?_
        rintro eh0 vh0 ⟨rfl, hd⟩
        have HB := Lib.hid (on HB.out hd.below)
        clear hd
        go_wp2_with fail
        refine (gnomonref19_Same.calls _ _ true _ S2.out).mono ?_
        rintro eh1 vh1 ⟨rfl, hd⟩
        have HB := Lib.hid (on HB.out hd.below)
        clear hd
        go_wp2_with fail
        refine (gnomonref19_Fair.calls kf _ _ c3 _ HF.out).mono ?_
        rintro ef vf ⟨rfl, hd⟩
        have HB := Lib.hid (on HB.out hd)
        clear hd
        cases c3 with
        | false =>
          go_wp2_with fail
          go_ret
          exact ⟨rfl, HB.out⟩
        | true =>
          go_wp2_with fail
          (try rw [hxa])
          refine (prodw_any _ _ _).mono ?_
          rintro ep0 vp0 ⟨p0, q0, rfl, hr, hp0, hq0, hd⟩
          rw [Int.toNat_natCast, Int.toNat_natCast] at hr
          have HB := Lib.hid (on HB.out hd.below)
          have HP0 := Lib.hid hr
          clear hd hr
          go_wp2_with fail
          (try rw [hxa])
          refine (prodw_any _ _ _).mono ?_
          rintro ep1 vp1 ⟨p1, q1, rfl, hr, hp1, hq1, hd⟩
          rw [Int.toNat_natCast, Int.toNat_natCast] at hr
          have HB := Lib.hid (on HB.out hd.below)
          have HP1 := Lib.hid hr
          clear hd hr
          go_wp2_with fail
          (try rw [hxa])
          refine (prodw_any _ _ _).mono ?_
          rintro ep2 vp2 ⟨p2, q2, rfl, hr, hp2, hq2, hd⟩
          rw [Int.toNat_natCast, Int.toNat_natCast] at hr
          have HB := Lib.hid (on HB.out hd.below)
          have HP2 := Lib.hid hr
          clear hd hr
          have hF := H3.out.1 (by trivial)
          obtain ⟨S1, S2, S3, S4⟩ := prod_sides hg ha hp0 hq0 hp1 hq1 hp2 hq2 HP0.out HP1.out HP2.out hF
          have S1 := Lib.hid S1
          have S2 := Lib.hid S2
          have S3 := Lib.hid S3
          have S4 := Lib.hid S4
          go_wp2_with fail
          refine (gnomonref19_Same.calls _ _ true _ S1.out).mono ?_
          rintro es0 vs0 ⟨rfl, hd⟩
          have HB := Lib.hid (on HB.out hd.below)
          clear hd
          go_wp2_with fail
          refine (gnomonref19_Same.calls _ _ true _ S2.out).mono ?_
          rintro es1 vs1 ⟨rfl, hd⟩
          have HB := Lib.hid (on HB.out hd.below)
          clear hd
          go_wp2_with fail
          refine (gnomonref19_Same.calls _ _ true _ S3.out).mono ?_
          rintro es2 vs2 ⟨rfl, hd⟩
          have HB := Lib.hid (on HB.out hd.below)
          clear hd
          go_wp2_with fail
          refine (gnomonref19_Same.calls _ _ true _ S4.out).mono ?_
          rintro es3 vs3 ⟨rfl, hd⟩
          have HB := Lib.hid (on HB.out hd.below)
          clear hd
          go_wp2_with fail
          go_ret
          exact ⟨rfl, HB.out⟩
end Go.Proofs.Ytbgmadijifefiaa.EftSidesW
