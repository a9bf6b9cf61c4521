/- What Widen does to sizes: the number is kept, the order too. Plain Lean. Condition: sizes of finite numbers. -/
import Derived.Test.YthpnmkclboennaaDoorKBinaryWideBinJ5
import Derived.Test.YthpnmkclboennaaDoorKBinaryWidePFinx1
import Derived.Test.YthpnmkclboennaaDoorKBinaryWideBinW2
namespace Go.Proofs.YthpnmkclboennaaDoor.BinWL
open Go.RowKit Go.Proofs.YthpnmkclboennaaDoorW.PrintWords Go.Proofs.YthpnmkclboennaaDoorW.PrintMore Go.Proofs.YthpnmkclboennaaDoorW.PrintLast Go.Proofs.YthpnmkclboennaaDoor.Num Go.Proofs.YthpnmkclboennaaDoor.Ref Go.Proofs.YthpnmkclboennaaDoor.BinLaw Go.Proofs.YthpnmkclboennaaDoor.BinA Go.Proofs.YthpnmkclboennaaDoor.BinO2 Go.Proofs.YthpnmkclboennaaDoor.BinF Go.Proofs.YthpnmkclboennaaDoor.BinG Go.Proofs.YthpnmkclboennaaDoor.BinW Go.Proofs.YthpnmkclboennaaDoor.BinW2 Go.Proofs.YthpnmkclboennaaDoor.BinJ2 Go.Proofs.YthpnmkclboennaaDoor.BinJ4 Go.Proofs.YthpnmkclboennaaDoor.BinJ5
theorem nF_step {f : Int} {F : Fmt} (h : Fm f F) (s : Nat) : nF F s < nF F (s + 1) := by
  have e := n_step h s
  have e1 : (2 * mgF F s + 1) * 2^(dF F s) = nF F s + (nF F s + 2^(dF F s)) := by
    unfold nF
    rw [Nat.add_mul, Nat.one_mul, Nat.mul_assoc, Nat.two_mul, Nat.add_assoc]
  have := Nat.two_pow_pos (dF F s)
  omega
theorem nF_lt {f : Int} {F : Fmt} (h : Fm f F) {s t : Nat} (hst : s < t) : nF F s < nF F t := by
  obtain ⟨d, rfl⟩ : ∃ d, t = s + 1 + d := ⟨t - (s + 1), by omega⟩
  clear hst
  induction d with
  | zero => exact nF_step h s
  | succ d ih => exact Nat.lt_trans ih (nF_step h (s + 1 + d))
theorem nF_iff {f : Int} {F : Fmt} (h : Fm f F) {s t : Nat} : nF F s < nF F t ↔ s < t := by
  refine ⟨fun a => ?_, nF_lt h⟩
  rcases Nat.lt_trichotomy s t with c | c | c
  · exact c
  · subst c; omega
  · have := nF_lt h c; omega
theorem nF_zero (F : Fmt) : nF F 0 = 0 := by unfold nF mgF; simp
theorem mg_zero {f : Int} {F : Fmt} (h : Fm f F) {s : Nat} (hs : s ≠ 0) : mgF F s ≠ 0 := by
  intro c
  have : nF F s = 0 := by unfold nF; rw [c, Nat.zero_mul]
  have h2 := nF_lt h (show 0 < s by omega)
  rw [nF_zero] at h2
  omega
theorem wide_sz (s : Nat) (hs : s < fS.inf) (K : Nat) (hK : K = 925) (neg : Bool) : ∃ t : Nat, jnF fD neg (mgF fS s) (xpF fS s) = (if neg then fD.sg + t else t, 0) ∧ t < fD.inf ∧ nF fD t = nF fS s * 2^K ∧ (s = 0 → t = 0) ∧ (s ≠ 0 → hdF fD ≤ t) := by
  have h : Fm 32 fS := .inl ⟨rfl, rfl⟩
  have hD : Fm 64 fD := .inr ⟨rfl, rfl⟩
  by_cases h0 : s = 0
  · subst h0
    have e0 : mgF fS 0 = 0 := by unfold mgF; simp
    refine ⟨0, ?_, by decide, by rw [nF_zero, nF_zero, Nat.zero_mul], fun _ => rfl, fun c => absurd rfl c⟩
    rw [e0]
    unfold jnF
    rw [if_pos rfl]
    rfl
  · have hP : fD.man = 53 := rfl
    have hlow : fD.low = -1074 := rfl
    have hlS : fS.low = -149 := rfl
    have hH : hdF fD = 4503599627370496 := by decide
    have hinf : fD.inf = 9218868437227405312 := rfl
    have hm0 := mg_zero h h0
    have hm := mg_S s
    have hm64 : mgF fS s < 18446744073709551616 := by omega
    have hxp := xp_S (s := s) (by have : fS.inf < fS.sg := by decide
                                  omega)
    have hxd := xp_d fS s
    have ho := (odd_ne hm0 hm64).1
    obtain ⟨_, _, hc⟩ := ctz_spec hm0 hm64
    have hman : mgF fS s / 2^(Lib.ctz 64 (mgF fS s)) * 2^(Lib.ctz 64 (mgF fS s)) = mgF fS s := by
      obtain ⟨r, hr, _⟩ := ctz_spec hm0 hm64
      exact Nat.div_mul_cancel ⟨_, hr⟩
    have e24 : (2 : Nat)^24 = 16777216 := by decide
    have hbm : bl (mgF fS s) ≤ 24 := bl_le_of_lt (by rw [e24]; exact hm)
    have hbo : bl (mgF fS s / 2^(Lib.ctz 64 (mgF fS s))) ≤ 24 := bl_le_of_lt (by rw [e24]; exact Nat.lt_of_le_of_lt (Nat.div_le_self _ _) hm)
    obtain ⟨d, hd⟩ : ∃ d, (xpF fS s + (Lib.ctz 64 (mgF fS s) : Nat) - fD.low).toNat = d := ⟨_, rfl⟩
    have hd2 : d = Lib.ctz 64 (mgF fS s) + (dF fS s + K) := by rw [← hd, hxd, hlow, hlS, hK]; omega
    have hN : mgF fS s / 2^(Lib.ctz 64 (mgF fS s)) * 2^d = nF fS s * 2^K := by
      unfold nF
      rw [hd2, Nat.pow_add, ← Nat.mul_assoc, hman, Nat.pow_add, Nat.mul_assoc]
    have hbN : bl (nF fS s * 2^K) = bl (mgF fS s) + (dF fS s + K) := by
      unfold nF
      rw [Nat.mul_assoc, ← Nat.pow_add, bl_mul _ _ hm0]
    have hbm0 : 1 ≤ bl (mgF fS s) := by
      unfold bl
      rw [if_neg hm0]; omega
    have hns := n_sz (d := d) ho (by omega)
    have hsz : szF fD (nF fS s * 2^K) = (bl (nF fS s * 2^K) - 53) * 4503599627370496 + nF fS s * 2^K / 2^(bl (nF fS s * 2^K) - 53) := by
      unfold szF
      rw [hP, hH, if_neg (by omega)]
    have hw : nF fS s * 2^K / 2^(bl (nF fS s * 2^K) - 53) < 9007199254740992 := by
      have e53 : (2 : Nat)^53 = 9007199254740992 := by decide
      rw [← e53, Nat.div_lt_iff_lt_mul (Nat.two_pow_pos _), ← Nat.pow_add]
      exact Nat.lt_of_lt_of_le (bl_lt _) (Nat.pow_le_pow_right (by decide) (by omega))
    rw [hN] at hns
    have hdS : dF fS s ≤ 255 := by
      have : (dF fS s : Int) ≤ 255 := by omega
      omega
    generalize nF fS s * 2^K / 2^(bl (nF fS s * 2^K) - 53) = W at *
    have hT : szF fD (nF fS s * 2^K) < fD.inf := by
      rw [hsz, hinf, hbN]
      omega
    have hT2 : hdF fD ≤ szF fD (nF fS s * 2^K) := by
      rw [hsz, hH, hbN]
      omega
    refine ⟨szF fD (nF fS s * 2^K), ?_, hT, hns, fun c => absurd c h0, fun _ => hT2⟩
    unfold jnF
    rw [if_neg hm0, if_neg (by rw [hP, hlow]; omega), hd, hN, if_neg (by omega)]
theorem dy_eq {n1 n2 d1 d2 : Nat} (h1 : n1 < 18446744073709551616) (h2 : n2 < 18446744073709551616) (z1 : n1 ≠ 0) (z2 : n2 ≠ 0) (e : n1 * 2^d1 = n2 * 2^d2) (hd : d1 ≤ 4000) :
    n1 / 2^(Lib.ctz 64 n1) = n2 / 2^(Lib.ctz 64 n2) ∧ Lib.ctz 64 n1 + d1 = Lib.ctz 64 n2 + d2 := by
  have hN : n1 * 2^d1 ≠ 0 := Nat.mul_ne_zero z1 (Nat.ne_of_gt (Nat.two_pow_pos d1))
  have hL : ∃ z, Low (n1 * 2^d1) z := by
    have hl : (dg (n1 * 2^d1)).length < 8589934592 := by
      have e64 : (2 : Nat)^64 = 18446744073709551616 := by decide
      have a : n1 * 2^d1 < 2^(64 + d1) := by
        rw [Nat.pow_add]
        exact Nat.mul_lt_mul_of_pos_right (by rw [e64]; exact h1) (Nat.two_pow_pos d1)
      obtain ⟨K, hK⟩ : ∃ K, K = 4064 := ⟨_, rfl⟩
      have b : n1 * 2^d1 < B^K := by
        rw [pw_B]
        exact Nat.lt_of_lt_of_le a (Nat.pow_le_pow_right (by decide) (by omega))
      have := dg_len_le b
      omega
    obtain ⟨z, hL, _⟩ := zeros_ev _ hN hl
    exact ⟨z, hL⟩
  obtain ⟨z, hL⟩ := hL
  obtain ⟨a1, a2⟩ := low_eq z1 h1 hL
  rw [e] at hL
  obtain ⟨b1, b2⟩ := low_eq z2 h2 hL
  exact ⟨by rw [← a2, ← b2, e], by omega⟩
theorem dy_same {F F' : Fmt} {f f' : Int} (h : Fm f F) (h' : Fm f' F') {s t : Nat} {K : Nat} (ht : t < F'.sg) (hK : F'.low + (K : Nat) = F.low) (hn : nF F' t = nF F s * 2^K) : dyl (mgF F' t) = dyl (mgF F s) ∧ dyx (mgF F' t) (xpF F' t) = dyx (mgF F s) (xpF F s) ∧ (mgF F' t = 0 ↔ mgF F s = 0) := by
  have e53 : (2 : Nat)^53 = 9007199254740992 := by decide
  have m1 := mg_lt53 h s
  have m2 := mg_lt53 h' t
  rw [e53] at m1 m2
  unfold nF at hn
  rw [Nat.mul_assoc, ← Nat.pow_add] at hn
  have hz : mgF F' t = 0 ↔ mgF F s = 0 := by
    have p1 := Nat.two_pow_pos (dF F' t)
    have p2 := Nat.two_pow_pos (dF F s + K)
    constructor
    · intro c
      rw [c, Nat.zero_mul] at hn
      rcases Nat.mul_eq_zero.1 hn.symm with c | c
      · exact c
      · omega
    · intro c
      rw [c, Nat.zero_mul] at hn
      rcases Nat.mul_eq_zero.1 hn with c | c
      · exact c
      · omega
  by_cases c : mgF F s = 0
  · have c' := hz.2 c
    rw [c, c']
    exact ⟨rfl, by unfold dyx; rw [if_pos rfl, if_pos rfl], by simp⟩
  · have c' : mgF F' t ≠ 0 := fun x => c (hz.1 x)
    have hq := q_le h' ht
    obtain ⟨e1, e2⟩ := dy_eq (by omega) (by omega) c' c hn (by unfold dF; omega)
    refine ⟨?_, ?_, hz⟩
    · unfold dyl; rw [if_neg c, if_neg c', e1]
    · unfold dyx
      rw [if_neg c, if_neg c', xp_d, xp_d]
      omega
theorem finite_f {f : Int} {F : Fmt} (h : Fm f F) (b : Nat) (hb : b < 18446744073709551616) : PFin.gnomonlaw07_finite.f f (b : Int) = some (decide (b < 2 * F.sg ∧ b % F.sg < F.inf)) := by
  unfold PFin.gnomonlaw07_finite.f
  rcases h with ⟨rfl, rfl⟩ | ⟨rfl, rfl⟩
  · have e : Int.tmod (b : Int) 2147483648 = ((b % 2147483648 : Nat) : Int) := (Int.ofNat_tmod b 2147483648).symm
    have hsg : fS.sg = 2147483648 := rfl
    have hinf : fS.inf = 2139095040 := rfl
    rw [if_pos rfl, e, hsg, hinf]
    by_cases c : b < 4294967296
    · rw [if_pos (by omega)]
      exact congrArg some (decide_eq_decide.2 (by omega))
    · rw [if_neg (by omega)]
      exact congrArg some (decide_eq_false (by omega)).symm
  · have e : Int.tmod (b : Int) 9223372036854775808 = ((b % 9223372036854775808 : Nat) : Int) := (Int.ofNat_tmod b 9223372036854775808).symm
    have hsg : fD.sg = 9223372036854775808 := rfl
    have hinf : fD.inf = 9218868437227405312 := rfl
    rw [if_neg (by decide), if_pos rfl, e, hsg, hinf]
    exact congrArg some (decide_eq_decide.2 (by omega))
end Go.Proofs.YthpnmkclboennaaDoor.BinWL
