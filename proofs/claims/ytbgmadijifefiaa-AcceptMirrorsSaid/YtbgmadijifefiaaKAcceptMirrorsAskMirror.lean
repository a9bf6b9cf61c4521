/- Accept is sure of the number with the other sign at every narrower margin, with the other sign's pattern. Plain Lean. No condition. -/
import Derived.Test.YtbgmadijifefiaaKAcceptMirrorsAskMono
namespace Go.Proofs.Ytbgmadijifefiaa.AccW
open Go.RowKit Go.Proofs.Ytbgmadijifefiaa.FW Go.Proofs.Ytbgmadijifefiaa.Eft Go.Proofs.Ytbgmadijifefiaa.EftLaw Fl
def flip (a : Nat) : Nat := a ^^^ 9223372036854775808
theorem xor_int (a : Nat) (h : a < 18446744073709551616) : bits .xor .u64 (a : Int) 9223372036854775808 = ((flip a : Nat) : Int) := bits_xor_u64_nat a 9223372036854775808 h (by decide)
theorem flip_lt {a : Nat} (h : a < 18446744073709551616) : flip a < 18446744073709551616 := Nat.xor_lt_two_pow (n := 64) (by omega) (by omega)
theorem sz_flip (a : Nat) : sz (flip a) = sz a := by
  unfold sz flip
  rw [Nat.xor_mod_two_pow]
  have : 9223372036854775808 % 2^63 = 0 := by decide
  rw [this, Nat.xor_zero]
theorem div_flip (a : Nat) : flip a / 2^63 = (a / 2^63) ^^^ 1 := by
  unfold flip
  rw [Nat.xor_div_two_pow]
theorem U_flip {a : Nat} (h : a < 18446744073709551616) : U (flip a) = -U a := by
  have h1 := div_flip a
  have h2 : a / 2^63 = 0 ∨ a / 2^63 = 1 := by omega
  unfold U
  rw [sz_flip]
  rcases h2 with h2 | h2
  · have n1 : ng a = false := by unfold ng; rw [h2]; rfl
    have n2 : ng (flip a) = true := by unfold ng; rw [h1, h2]; rfl
    rw [n1, n2, if_pos rfl, if_neg (by decide)]
  · have n1 : ng a = true := by unfold ng; rw [h2]; rfl
    have n2 : ng (flip a) = false := by unfold ng; rw [h1, h2]; rfl
    rw [n1, n2, if_pos rfl, if_neg (by decide), Int.neg_neg]
theorem fin_flip {a : Nat} (h : fin a) : fin (flip a) := by unfold fin at *; rw [sz_flip]; exact h
theorem mirror_law {x y r s : Nat} {ok : Bool} {i j : Int} (hx : x < 18446744073709551616) (hy : y < 18446744073709551616) (h : AcceptR x y i r true) (hj : j ≤ i) (hj2 : -100 ≤ j) (h' : AcceptR (flip x) (flip y) j s ok) : s = flip r ∧ ok = true := by
  obtain ⟨hr0, hrlt, hall⟩ := sure_vals h
  obtain ⟨c1, c2, h1, h2, hf, d, hw, ho⟩ := h.fit
  obtain ⟨fx, fy, hs⟩ := form_law hf h2
  have hsm := small_of hs
  have ux := U_flip hx
  have uy := U_flip hy
  obtain ⟨_, bx⟩ := atMost_995 (a := x) (by omega)
  have hT := T0_pos
  rcases h' with ⟨hf', _⟩ | ⟨_, u', d', hw', h'⟩
  · rcases hf' with ⟨_, _, _, _, hf'⟩ | ⟨hn, _⟩
    · rcases hf' with ⟨_, _, t, ht, he⟩ | ⟨hn, _⟩
      · have hbd : (U (flip x) + U (flip y)).natAbs ≤ 2^25 * T0 := by rw [ux, uy]; omega
        have it := fop_add ht (fin_flip fx) (fin_flip fy) (le_top0 hbd (by decide))
        have v := val0 it
        have e0 : U (flip x) + U (flip y) = -(U x + U y) := by rw [ux, uy]; omega
        rw [e0, rnI_neg, hs, ← ux] at v
        have e := (eq_fin it.fin (fin_flip fx)).symm.trans he.symm
        exact absurd v (of_decide_eq_false e)
      · exact (hn ⟨fin_flip fx, fin_flip fy⟩).elim
    · exact (hn ⟨hj2, by omega, by rw [sz_flip]; exact h1, by rw [sz_flip]; exact h2⟩).elim
  · obtain ⟨g, hg⟩ : ∃ g, g = 1074 := ⟨_, rfl⟩
    obtain ⟨n, m, hn, hm, vm, fu, fd, hlt, vu, vd⟩ := way_vals hg hj2 (by omega) (by rw [sz_flip]; exact h1) (by rw [sz_flip]; exact h2) (fin_flip fy) (by rw [ux, uy, Int.natAbs_neg, Int.natAbs_neg]; omega) hw'
    rw [sz_flip] at vm
    obtain ⟨e1, e2⟩ := hall g hg n (by omega) m vm
    have a1 : -U y + m = -(U y - m) := by omega
    have a2 : -U y - m = -(U y + m) := by omega
    rw [ux, uy, a1, rnI_neg, ← Int.neg_add, rnI_neg, e2] at vu
    rw [ux, uy, a2, rnI_neg, ← Int.neg_add, rnI_neg, e1] at vd
    rcases h' with ⟨h', _⟩ | ⟨_, h', h''⟩
    · have e := (ne_fin fu fd).symm.trans h'
      exact absurd (vu.trans vd.symm) (of_decide_eq_true e)
    · refine ⟨?_, h''⟩
      rw [h']
      exact uniq hlt (flip_lt hrlt) (by rw [vu, U_flip hrlt]) (by rw [sz_flip]; exact sz_ne hr0)
end Go.Proofs.Ytbgmadijifefiaa.AccW
