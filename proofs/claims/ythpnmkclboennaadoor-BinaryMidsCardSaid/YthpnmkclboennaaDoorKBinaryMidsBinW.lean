/- What the reference's Whole and Dyadic, DocValue and DocMid answer, told by numbers. Plain Lean. Conditions: words below 2^64. -/
import Derived.Test.YthpnmkclboennaaDoorKBinaryMidsBinG
import Derived.Lib.TrailingZeros
import Derived.Test.YthpnmkclboennaaDoorKBinaryMidsPLibx3
import Derived.Test.YthpnmkclboennaaDoorKBinaryMidsPLibx5
import Derived.Test.YthpnmkclboennaaDoorKBinaryMidsPLibx0
import Derived.Test.YthpnmkclboennaaDoorKBinaryMidsPLibx9
import Derived.Test.YthpnmkclboennaaDoorKBinaryMidsPLibx11
import Derived.Test.YthpnmkclboennaaDoorKBinaryMidsPLibx7
namespace Go.Proofs.YthpnmkclboennaaDoor.BinW
open Go.RowKit Go.Proofs.YthpnmkclboennaaDoorW.PrintWords Go.Proofs.YthpnmkclboennaaDoorW.PrintMore Go.Proofs.YthpnmkclboennaaDoor.Num Go.Proofs.YthpnmkclboennaaDoor.PLib Go.Proofs.YthpnmkclboennaaDoor.Ref Go.Proofs.YthpnmkclboennaaDoor.BinLaw Go.Proofs.YthpnmkclboennaaDoor.BinO2 Go.Proofs.YthpnmkclboennaaDoor.BinF Go.Proofs.YthpnmkclboennaaDoor.BinG
def dF (F : Fmt) (s : Nat) : Nat := s / hdF F - 1
def nF (F : Fmt) (s : Nat) : Nat := mgF F s * 2^(dF F s)
theorem xp_d (F : Fmt) (s : Nat) : xpF F s = F.low + (dF F s : Nat) := by
  unfold xpF dF
  split
  · rename_i c; rw [c]; simp
  · generalize s / hdF F = q at *
    omega
theorem fm_low {f : Int} {F : Fmt} (h : Fm f F) : -1074 ≤ F.low ∧ F.low ≤ -149 := by rcases h with ⟨_, rfl⟩ | ⟨_, rfl⟩ <;> exact ⟨by decide, by decide⟩
theorem q_le {f : Int} {F : Fmt} (h : Fm f F) {s : Nat} (hs : s < F.sg) : s / hdF F < 2048 := by
  rw [Nat.div_lt_iff_lt_mul (fm_hd h).1]
  rcases h with ⟨_, rfl⟩ | ⟨_, rfl⟩
  · have : s < 2147483648 := hs
    show s < 2048 * 8388608; omega
  · have : s < 9223372036854775808 := hs
    show s < 2048 * 4503599627370496; omega
theorem mg_lt {f : Int} {F : Fmt} (h : Fm f F) (s : Nat) : mgF F s < 2 * hdF F := by
  have hh := fm_hd h
  have := Nat.mod_lt s hh.1
  unfold mgF
  split <;> omega
theorem mg_lt53 {f : Int} {F : Fmt} (h : Fm f F) (s : Nat) : mgF F s < 2^53 := by
  have hh := fm_hd h
  have := mg_lt h s
  have e : (2 : Nat)^53 = 9007199254740992 := by decide
  rw [e]; omega
theorem pow_len {n d : Nat} (hn : n < 2^64) (hd : d ≤ 4000) : (dg (n * 2^d)).length < 274877906944 := by
  refine dg_len_bits (k := 64 + d) ?_ (by omega)
  rw [Nat.pow_add]
  exact Nat.mul_lt_mul_of_pos_right hn (Nat.two_pow_pos d)
theorem whole_ev {f : Int} {F : Fmt} (h : Fm f F) (g i q : Int) (b : Nat) : Ev (fun k => gnomonref07_Whole.f k ((F.sg : Nat) : Int) ((F.man : Nat) : Int) F.low g i q (b : Int)) (decide (F.sg ≤ b) && decide (nF F (b % F.sg) ≠ 0), dg (nF F (b % F.sg))) := by
  have hz := h.sz
  have hs : b % F.sg < F.sg := Nat.mod_lt _ (by omega)
  have hq := q_le h hs
  have hlow := fm_low h
  have hm : mgF F (b % F.sg) < 2^64 := Nat.lt_trans (mg_lt53 h _) (by decide)
  have hd : dF F (b % F.sg) ≤ 2048 := by unfold dF; omega
  have hw : wrap64 (xpF F (b % F.sg) - F.low) = ((dF F (b % F.sg) : Nat) : Int) := by rw [xp_d, w64 (by omega) (by omega)]; omega
  unfold gnomonref07_Whole.f
  simp only [cut_f h, Option.bind_some, rparts_f h _ _ _ _ hs, hw]
  have e64 : (2 : Nat)^64 = 18446744073709551616 := by decide
  have h1 := word_ev ((mgF F (b % F.sg) : Nat) : Int) (by omega) (by rw [e64] at hm; omega)
  rw [Int.toNat_natCast] at h1
  have hl : (dg (mgF F (b % F.sg))).length < 274877906944 := dg_len_bits hm (by decide)
  have hl2 : (dg (nF F (b % F.sg))).length < 274877906944 := pow_len hm (by omega)
  refine Ev.bind h1 (Ev.bind (shl_ev _ _ hl (by omega)) (pair_some ?_))
  exact mk_ev _ _ (by show (dg (nF F (b % F.sg))).length < _; omega)
theorem ctz_spec {n : Nat} (h0 : n ≠ 0) (hn : n < 18446744073709551616) : ∃ m, n = 2^(Lib.ctz 64 n) * (2 * m + 1) ∧ Lib.ctz 64 n < 64 := by
  have e : Lib.ctz 64 n = Lib.ctzFrom 64 n := by simp [Lib.ctz, h0]
  rw [e]
  exact Lib.ctzFrom_spec 64 n (by omega) hn
theorem low_eq {n d z : Nat} (h0 : n ≠ 0) (hn : n < 18446744073709551616) (hL : Low (n * 2^d) z) : z = Lib.ctz 64 n + d ∧ n * 2^d / 2^z = n / 2^(Lib.ctz 64 n) := by
  obtain ⟨m, hm, _⟩ := ctz_spec h0 hn
  generalize Lib.ctz 64 n = c at *
  have e : n * 2^d = 2^(c + d) * (2 * m + 1) := by rw [hm, Nat.pow_add]; simp only [Nat.mul_comm, Nat.mul_left_comm]
  have hz : z = c + d := by
    rcases Nat.lt_trichotomy z (c + d) with hlt | heq | hgt
    · exfalso
      apply hL.2
      rw [e]
      exact Nat.dvd_trans (Nat.pow_dvd_pow 2 hlt) (Nat.dvd_mul_right _ _)
    · exact heq
    · exfalso
      have h1 : 2^(c + d + 1) ∣ 2^(c + d) * (2 * m + 1) := by rw [← e]; exact Nat.dvd_trans (Nat.pow_dvd_pow 2 hgt) hL.1
      rw [Nat.pow_succ] at h1
      have := Nat.dvd_of_mul_dvd_mul_left (Nat.two_pow_pos _) h1
      omega
  refine ⟨hz, ?_⟩
  rw [hz, e, Nat.mul_div_cancel_left _ (Nat.two_pow_pos _)]
  conv => rhs; lhs; rw [hm]
  rw [Nat.mul_div_cancel_left _ (Nat.two_pow_pos _)]
def dyl (n : Nat) : List Int := if n = 0 then [] else [((n / 2^(Lib.ctz 64 n) : Nat) : Int)]
def dyx (n : Nat) (x : Int) : Int := if n = 0 then 0 else x + (Lib.ctz 64 n : Nat)
theorem odd_ne {n : Nat} (h0 : n ≠ 0) (hn : n < 18446744073709551616) : n / 2^(Lib.ctz 64 n) ≠ 0 ∧ n / 2^(Lib.ctz 64 n) < 18446744073709551616 := by
  obtain ⟨m, hm, _⟩ := ctz_spec h0 hn
  generalize Lib.ctz 64 n = c at *
  have e : n / 2^c = 2 * m + 1 := by
    conv => lhs; lhs; rw [hm]
    rw [Nat.mul_div_cancel_left _ (Nat.two_pow_pos _)]
  have := Nat.div_le_self n (2^c)
  omega
theorem lm_one {n : Nat} (h0 : n ≠ 0) (hn : n < 18446744073709551616) : lm n = [(n : Int)] := by
  rw [lm_pos h0, Nat.mod_eq_of_lt hn, Nat.div_eq_of_lt hn, lm_zero]
theorem dyadic_ev (neg : Bool) (n d : Nat) (e : Int) (hn : n < 18446744073709551616) (hd : d ≤ 4000) (he : -5000 ≤ e) (he2 : e ≤ 5000) :
    Ev (fun k => gnomonref07_Dyadic.f k (neg && decide (n * 2^d ≠ 0)) (dg (n * 2^d)) e) (neg && decide (n ≠ 0), dyl n, dyx n (e + (d : Nat))) := by
  unfold gnomonref07_Dyadic.f
  by_cases h0 : n = 0
  · subst h0
    rw [Nat.zero_mul, dg_zero]
    refine Ev.congr (f := fun _ => some _) (fun k => ?_) (Ev.now _)
    simp [gnomonref04_Sign.f, dyl, dyx]
  · have hN : n * 2^d ≠ 0 := Nat.mul_ne_zero h0 (Nat.ne_of_gt (Nat.two_pow_pos d))
    have hl : (dg (n * 2^d)).length < 8589934592 := by
      have e64 : (2 : Nat)^64 = 18446744073709551616 := by decide
      have h1 : n * 2^d < 2^(64 + d) := by
        rw [Nat.pow_add]
        exact Nat.mul_lt_mul_of_pos_right (by rw [e64]; exact hn) (Nat.two_pow_pos d)
      obtain ⟨K, hK⟩ : ∃ K, K = 4064 := ⟨_, rfl⟩
      have h2 : n * 2^d < B^K := by
        rw [pw_B]
        exact Nat.lt_of_lt_of_le h1 (Nat.pow_le_pow_right (by decide) (by omega))
      have := dg_len_le h2
      omega
    obtain ⟨z, hL, hz⟩ := zeros_ev (n * 2^d) hN hl
    obtain ⟨e1, e2⟩ := low_eq h0 hn hL
    obtain ⟨_, _, hc⟩ := ctz_spec h0 hn
    have ho := odd_ne h0 hn
    have hlen : ¬ ((dg (n * 2^d)).length : Int) = 0 := by
      intro c
      have : (dg (n * 2^d)).length = 0 := by omega
      exact hN (dg_len_zero.1 this)
    have hsg : ∃ s, gnomonref04_Sign.f (neg && decide (n * 2^d ≠ 0)) (dg (n * 2^d)) = some s ∧ s ≠ 0 := by
      unfold gnomonref04_Sign.f
      rw [if_neg hlen]
      split
      · exact ⟨_, rfl, by decide⟩
      · exact ⟨_, rfl, by decide⟩
    obtain ⟨s, hs, hs0⟩ := hsg
    rw [hs]
    simp only [Option.bind_some]
    refine Ev.congr (fun k => if_neg hs0) ?_
    refine Ev.bind hz (Ev.bind (shr_ev _ _ (by omega) (by omega)) ?_)
    rw [e2]
    have hl3 : (dg (n / 2^(Lib.ctz 64 n))).length < 1099511627776 := by
      have e64 : (2 : Nat)^64 = 18446744073709551616 := by decide
      have := dg_len_bits (n := n / 2^(Lib.ctz 64 n)) (k := 64) (by rw [e64]; exact ho.2) (by decide)
      omega
    refine Ev.bind (mk_ev _ _ hl3) ?_
    have ht := to_ev (n / 2^(Lib.ctz 64 n)) hl3
    have htt : Ev (fun k => gnomonref04_To.f k ((neg && decide (n * 2^d ≠ 0)) && decide (n / 2^(Lib.ctz 64 n) ≠ 0)) (dg (n / 2^(Lib.ctz 64 n)))) (neg, lm (n / 2^(Lib.ctz 64 n))) := by
      unfold gnomonref04_To.f
      rw [decide_eq_true hN, decide_eq_true ho.1, Bool.and_true, Bool.and_true]
      cases neg
      · refine Ev.congr (fun k => if_neg (by decide)) (Ev.bind ht (Ev.now _))
      · refine Ev.congr (fun k => if_pos rfl) (Ev.bind ht ?_)
        have : decide (0 < (dg (n / 2^(Lib.ctz 64 n))).length) = true := decide_eq_true (Nat.pos_of_ne_zero fun c => ho.1 (dg_len_zero.1 c))
        rw [this]
        exact Ev.now _
    refine Ev.bind htt ?_
    refine Ev.congr (f := fun _ => some _) (fun k => ?_) (Ev.now _)
    rw [w64 (by omega) (by omega), lm_one ho.1 ho.2]
    unfold dyl dyx
    rw [if_neg h0, if_neg h0, decide_eq_true h0, Bool.and_true]
    congr 3
    omega
end Go.Proofs.YthpnmkclboennaaDoor.BinW
