/- Halves of 26 bits: their products are exact, and of a half nothing is split off. Plain Lean. Conditions: as each lemma says. -/
import Derived.Test.YtbgmadijifefiaaKEftHalvesProdB
namespace Go.Proofs.Ytbgmadijifefiaa.EftLaw
open Go.Proofs.Ytbgmadijifefiaa.FW Go.Proofs.Ytbgmadijifefiaa.Eft Fl
theorem ge_of_dvd {v : Int} {i : Nat} (h : (2:Int)^i ∣ v) (h0 : v ≠ 0) : 2^i ≤ v.natAbs := Nat.le_of_dvd (by omega) (natAbs_dvd'.1 h)
theorem halves_prod {g i j x y p e : Nat} (hg : g = 1074) (hR : ProdR x y p e) (dx : (2:Int)^i ∣ U x) (bx : (U x).natAbs ≤ 2^(26 + i)) (dy : (2:Int)^j ∣ U y) (by' : (U y).natAbs ≤ 2^(26 + j))
    (hij : g + 114 ≤ i + j) (hx : sz x ≤ 2018 * 2^52) (hy : sz y ≤ 2018 * 2^52) (hhi : (U x * U y).natAbs ≤ 2^50 * T0 * 2^g) : fin e ∧ U e = 0 ∧ (U x ≠ 0 → U y ≠ 0 → U p ≠ 0) := by
  have hlo : U x * U y = 0 ∨ 2^(g + 114) ≤ (U x * U y).natAbs := by
    by_cases h0 : U x * U y = 0
    · exact Or.inl h0
    · right
      have hx0 : U x ≠ 0 := fun e => h0 (by rw [e, Int.zero_mul])
      have hy0 : U y ≠ 0 := fun e => h0 (by rw [e, Int.mul_zero])
      have h := Nat.mul_le_mul (ge_of_dvd dx hx0) (ge_of_dvd dy hy0)
      rw [← Nat.pow_add, ← Int.natAbs_mul] at h
      exact Nat.le_trans (Nat.pow_le_pow_right (by decide) hij) h
  obtain ⟨ip, fe, _, hs, _⟩ := prod_law hg hR hx hy hlo hhi
  have hF : isF g (U x * U y) := by
    refine ⟨i + j, by omega, ?_, ?_⟩
    · rw [Int.pow_add]; exact Int.mul_dvd_mul dx dy
    · rw [Int.natAbs_mul]
      have h := Nat.mul_le_mul bx by'
      have e : 2^(26 + i) * 2^(26 + j) = 2^52 * 2^(i + j) := by
        rw [← Nat.pow_add, ← Nat.pow_add]; congr 1; omega
      rw [e] at h
      have : 2^52 * 2^(i + j) ≤ 2^53 * 2^(i + j) := Nat.mul_le_mul_right _ (by decide)
      omega
  have v := ip.val
  rw [rnI_exact hF] at v
  have hpos := ipw g
  have he : U e * 2^g = 0 := by rw [Int.add_mul, v] at hs; omega
  have he0 : U e = 0 := by
    rcases Int.mul_eq_zero.1 he with h | h
    · exact h
    · omega
  refine ⟨fe, he0, fun h1 h2 h3 => ?_⟩
  rw [h3, Int.zero_mul] at v
  rcases Int.mul_eq_zero.1 v.symm with h | h
  · exact h1 h
  · exact h2 h
theorem half_again {i h j o : Nat} (c : Cut 0 (U h) (U j) (U o)) (dh : (2:Int)^i ∣ U h) (bh : (U h).natAbs ≤ 2^(26 + i)) : U o = 0 ∧ U j = U h := by
  have hsum := c.sum
  have hd : (2:Int)^(hx 0 (U h)) ∣ U h := by
    by_cases h0 : U h = 0
    · rw [h0]; exact Int.dvd_zero _
    by_cases hle : hx 0 (U h) ≤ i
    · exact Int.dvd_trans (dvd_pow_le hle) dh
    · have hk := hx_le (g := 0) (a := U h) (by omega)
      have hk' : 2^(25 + hx 0 (U h)) ≤ (U h).natAbs := by rw [Nat.pow_add]; exact_mod_cast hk
      have h1 := (Nat.pow_le_pow_iff_right (a := 2) (by decide)).1 (Nat.le_trans hk' bh)
      have e1 : hx 0 (U h) = i + 1 := by omega
      rw [e1] at hk'
      have e2 : (U h).natAbs = 2^(26 + i) := by
        have : 2^(25 + (i + 1)) = 2^(26 + i) := by congr 1; omega
        omega
      rw [natAbs_dvd', e1, e2]
      exact Nat.pow_dvd_pow 2 (by omega)
  have ho : (2:Int)^(hx 0 (U h)) ∣ U o := by
    have e : U o = U h - U j := by omega
    rw [e]; exact Int.dvd_sub hd c.top
  have hl := c.low
  have hp := ipw (hx 0 (U h))
  have ho0 : U o = 0 := by
    by_cases h0 : U o = 0
    · exact h0
    · have h1 := ge_of_dvd ho h0
      have h2 : ((2^(hx 0 (U h)) : Nat) : Int) = 2^(hx 0 (U h)) := Int.natCast_pow 2 _
      omega
  exact ⟨ho0, by omega⟩
end Go.Proofs.Ytbgmadijifefiaa.EftLaw
