/- What the reference's Whole and Dyadic, DocValue and DocMid answer, told by numbers. Plain Lean. Conditions: words below 2^64. -/
import Derived.Test.YthpnmkclboennaaDoorKBinaryWidensBinG
import Derived.Lib.TrailingZeros
import Derived.Test.YthpnmkclboennaaDoorKBinaryWidensPLibx3
import Derived.Test.YthpnmkclboennaaDoorKBinaryWidensPLibx5
import Derived.Test.YthpnmkclboennaaDoorKBinaryWidensPLibx0
import Derived.Test.YthpnmkclboennaaDoorKBinaryWidensPLibx9
import Derived.Test.YthpnmkclboennaaDoorKBinaryWidensPLibx2
import Derived.Test.YthpnmkclboennaaDoorKBinaryWidensPLibx7
namespace Go.Proofs.YthpnmkclboennaaDoor.BinW
open Go.RowKit Go.Proofs.YthpnmkclboennaaDoorW.PrintWords Go.Proofs.YthpnmkclboennaaDoorW.PrintMore Go.Proofs.YthpnmkclboennaaDoor.Num Go.Proofs.YthpnmkclboennaaDoor.PLib Go.Proofs.YthpnmkclboennaaDoor.Ref Go.Proofs.YthpnmkclboennaaDoor.BinLaw Go.Proofs.YthpnmkclboennaaDoor.BinO2 Go.Proofs.YthpnmkclboennaaDoor.BinF Go.Proofs.YthpnmkclboennaaDoor.BinG
def dF (F : Fmt) (s : Nat) : Nat := s / hdF F - 1
def nF (F : Fmt) (s : Nat) : Nat := mgF F s * 2^(dF F s)
theorem xp_d (F : Fmt) (s : Nat) : xpF F s = F.low + (dF F s : Nat) := by
  unfold xpF dF
  split
  · rename_i c; rw [c]; simp
  · generalize s / hdF F = q at *
    omega
theorem fm_low {f : Int} {F : Fmt} (h : Fm f F) : -1074 ≤ F.low ∧ F.low ≤ -149 := by rcases h with ⟨_, rfl⟩ | ⟨_, rfl⟩ <;> exact ⟨by decide, by decide⟩
theorem q_le {f : Int} {F : Fmt} (h : Fm f F) {s : Nat} (hs : s < F.sg) : s / hdF F < 2048 := by
  rw [Nat.div_lt_iff_lt_mul (fm_hd h).1]
  rcases h with ⟨_, rfl⟩ | ⟨_, rfl⟩
  · have : s < 2147483648 := hs
    show s < 2048 * 8388608; omega
  · have : s < 9223372036854775808 := hs
    show s < 2048 * 4503599627370496; omega
theorem mg_lt {f : Int} {F : Fmt} (h : Fm f F) (s : Nat) : mgF F s < 2 * hdF F := by
  have hh := fm_hd h
  have := Nat.mod_lt s hh.1
  unfold mgF
  split <;> omega
theorem mg_lt53 {f : Int} {F : Fmt} (h : Fm f F) (s : Nat) : mgF F s < 2^53 := by
  have hh := fm_hd h
  have := mg_lt h s
  have e : (2 : Nat)^53 = 9007199254740992 := by decide
  rw [e]; omega
theorem pow_len {n d : Nat} (hn : n < 2^64) (hd : d ≤ 4000) : (dg (n * 2^d)).length < 274877906944 := by
  refine dg_len_bits (k := 64 + d) ?_ (by omega)
  rw [Nat.pow_add]
  exact Nat.mul_lt_mul_of_pos_right hn (Nat.two_pow_pos d)
theorem whole_ev {f : Int} {F : Fmt} (h : Fm f F) (g i q : Int) (b : Nat) : Ev (fun k => gnomonref07_Whole.f k ((F.sg : Nat) : Int) ((F.man : Nat) : Int) F.low g i q (b : Int)) (decide (F.sg ≤ b) && decide (nF F (b % F.sg) ≠ 0), dg (nF F (b % F.sg))) := by
  have hz := h.sz
  have hs : b % F.sg < F.sg := Nat.mod_lt _ (by omega)
  have hq := q_le h hs
  have hlow := fm_low h
  have hm : mgF F (b % F.sg) < 2^64 := Nat.lt_trans (mg_lt53 h _) (by decide)
  have hd : dF F (b % F.sg) ≤ 2048 := by unfold dF; omega
  have hw : wrap64 (xpF F (b % F.sg) - F.low) = ((dF F (b % F.sg) : Nat) : Int) := by rw [xp_d, w64 (by omega) (by omega)]; omega
  unfold gnomonref07_Whole.f
  simp only [cut_f h, Option.bind_some, rparts_f h _ _ _ _ hs, hw]
  have e64 : (2 : Nat)^64 = 18446744073709551616 := by decide
  have h1 := word_ev ((mgF F (b % F.sg) : Nat) : Int) (by omega) (by rw [e64] at hm; omega)
  rw [Int.toNat_natCast] at h1
  have hl : (dg (mgF F (b % F.sg))).length < 274877906944 := dg_len_bits hm (by decide)
  have hl2 : (dg (nF F (b % F.sg))).length < 274877906944 := pow_len hm (by omega)
  refine Ev.bind h1 (Ev.bind (shl_ev _ _ hl (by omega)) (pair_some ?_))
  exact mk_ev _ _ (by show (dg (nF F (b % F.sg))).length < _; omega)
theorem ctz_spec {n : Nat} (h0 : n ≠ 0) (hn : n < 18446744073709551616) : ∃ m, n = 2^(Lib.ctz 64 n) * (2 * m + 1) ∧ Lib.ctz 64 n < 64 := by
  have e : Lib.ctz 64 n = Lib.ctzFrom 64 n := by simp [Lib.ctz, h0]
  rw [e]
  exact Lib.ctzFrom_spec 64 n (by omega) hn
theorem odd_ne {n : Nat} (h0 : n ≠ 0) (hn : n < 18446744073709551616) : n / 2^(Lib.ctz 64 n) ≠ 0 ∧ n / 2^(Lib.ctz 64 n) < 18446744073709551616 := by
  obtain ⟨m, hm, _⟩ := ctz_spec h0 hn
  generalize Lib.ctz 64 n = c at *
  have e : n / 2^c = 2 * m + 1 := by
    conv => lhs; lhs; rw [hm]
    rw [Nat.mul_div_cancel_left _ (Nat.two_pow_pos _)]
  have := Nat.div_le_self n (2^c)
  omega
end Go.Proofs.YthpnmkclboennaaDoor.BinW
