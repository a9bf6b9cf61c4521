/- The halves of a number from 2^-400 to 2^480: their grids and bounds. Plain Lean. -/
import Derived.Test.YtbgmadijifefiaaKEftHalvesHalvesLaw
namespace Go.Proofs.Ytbgmadijifefiaa.EftLaw
open Go.Proofs.Ytbgmadijifefiaa.FW Go.Proofs.Ytbgmadijifefiaa.Eft Fl
structure Half (x : Nat) : Prop where mk :: (fin : fin x) (out : ∃ i : Nat, 622 ≤ i ∧ (2:Int)^i ∣ U x ∧ (U x).natAbs ≤ 2^(26 + i)) (le : ∀ n, n = 1560 → (U x).natAbs ≤ 2^n) (sz : sz x ≤ 2018 * 2^52)
theorem sz_of_U {x n : Nat} (hn : n = 1560) (h : (U x).natAbs ≤ 2^n) : sz x ≤ 2018 * 2^52 := by
  obtain ⟨k, hk⟩ : ∃ k, k = 2017 := ⟨_, rfl⟩
  have h2 := mg_top k
  rw [U_natAbs] at h
  have h3 : 2^n ≤ 2^k := Nat.pow_le_pow_right (by decide) (by omega)
  have h4 := mg_le_iff (r := sz x) (s := (k + 1) * 2^52)
  rw [h2] at h4
  have h5 := h4.1 (Nat.le_trans h (Nat.le_trans h3 (Nat.le_mul_of_pos_left _ (by decide))))
  rw [hk] at h5
  exact h5
theorem lo_le {s lo : Nat} (h : 623 * 2^52 ≤ s) (hlo : lo = 622) : (lo + 1) * 2^52 ≤ s := by rw [hlo]; exact h
theorem le_hi {s hi : Nat} (h : s ≤ 1503 * 2^52) (hhi : hi = 1502) : s ≤ (hi + 1) * 2^52 := by rw [hhi]; exact h
theorem half_facts {a h l : Nat} (hR : SplitR a h l) (h1 : 623 * 2^52 ≤ sz a) (h2 : sz a ≤ 1503 * 2^52) : Half h ∧ Half l ∧ U h ≠ 0 := by
  obtain ⟨fa, fh, fl, ba, c⟩ := split_law hR (by omega)
  obtain ⟨q1, q2, q3⟩ := cut_hi c
  obtain ⟨lo, hlo⟩ : ∃ k, k = 622 := ⟨_, rfl⟩
  obtain ⟨hi, hhi⟩ : ∃ k, k = 1502 := ⟨_, rfl⟩
  have m1 := mg_le (lo_le h1 hlo)
  have m2 := mg_le (le_hi h2 hhi)
  rw [mg_top] at m1 m2
  have na := U_natAbs a
  have hke : 622 ≤ ke 0 (U a) := by
    have k1 := ke_lt 0 (U a)
    have k1' : (U a).natAbs < 2^(53 + ke 0 (U a)) := by rw [Nat.pow_add]; exact_mod_cast k1
    have k2 : 2^(52 + lo) ≤ (U a).natAbs := by rw [Nat.pow_add]; omega
    have := (Nat.pow_lt_pow_iff_right (a := 2) (by decide)).1 (Nat.lt_of_le_of_lt k2 k1')
    omega
  have hkx := hx_ke 0 (U a)
  have le : ∀ x : Nat, 2 * (U x).natAbs ≤ 3 * (U a).natAbs → ∀ n, n = 1560 → (U x).natAbs ≤ 2^n := by
    intro x hx n hn
    have e : 2^n = 2^58 * 2^hi := by rw [← Nat.pow_add]; congr 1; omega
    have hp := Nat.two_pow_pos hi
    rw [e]
    omega
  obtain ⟨n, hn⟩ : ∃ n, n = 1560 := ⟨_, rfl⟩
  have hle := le h q1
  have lle := le l (by omega)
  refine ⟨⟨fh, ⟨hx 0 (U a), by omega, c.top, by rw [Nat.pow_add]; exact_mod_cast c.high⟩, hle, sz_of_U hn (hle n hn)⟩, ⟨fl, ⟨ke 0 (U a), by omega, c.place, ?_⟩, lle, sz_of_U hn (lle n hn)⟩, ?_⟩
  · have w := c.low
    have w1 : 2 * (U l).natAbs ≤ 2^(hx 0 (U a)) := by exact_mod_cast w
    have w2 := Nat.pow_le_pow_right (n := 2) (by decide) hkx.2
    have e : 2^(ke 0 (U a) + 27) = 2 * 2^(26 + ke 0 (U a)) := by rw [show ke 0 (U a) + 27 = (26 + ke 0 (U a)) + 1 by omega, Nat.pow_succ, Nat.mul_comm]
    omega
  · intro h0
    have s := c.sum
    have hp := Nat.two_pow_pos lo
    have := cut_small c
    omega
end Go.Proofs.Ytbgmadijifefiaa.EftLaw
