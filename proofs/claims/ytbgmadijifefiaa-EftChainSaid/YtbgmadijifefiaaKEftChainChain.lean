/- A list added up step by step: the sum and what each step misses make the whole; the reference's additions of units. Plain Lean. Conditions: at most 2^45 steps, as each lemma says. -/
import Derived.Test.YtbgmadijifefiaaKEftChainSumsLaw
import Derived.Test.YtbgmadijifefiaaKEftChainPLibx14
namespace Go.Proofs.Ytbgmadijifefiaa.Chain
open Go.RowKit Go.Proofs.YtbgmadijifefiaaW.PrintWords Go.Proofs.YtbgmadijifefiaaW.PrintMore Go.Proofs.Ytbgmadijifefiaa.Num Go.Proofs.Ytbgmadijifefiaa.PLib Go.Proofs.Ytbgmadijifefiaa.Ref Go.Proofs.Ytbgmadijifefiaa.FW Go.Proofs.Ytbgmadijifefiaa.Eft Go.Proofs.Ytbgmadijifefiaa.EftLaw Go.Proofs.Ytbgmadijifefiaa.SumsLaw Fl
def xw (x : Nat) : Nat := 3256102530588868608 + sz x % 5404319552844595200 + x / 2^63 * 2^63
theorem xw_lt {x : Nat} (h : x < 18446744073709551616) : xw x < 18446744073709551616 := by
  have := Nat.mod_lt (sz x) (show 0 < 5404319552844595200 by decide)
  unfold xw; omega
theorem xw_sz {x : Nat} (_h : x < 18446744073709551616) : sz (xw x) ≤ 1923 * 2^52 := by
  have := Nat.mod_lt (sz x) (show 0 < 5404319552844595200 by decide)
  unfold xw
  generalize sz x % 5404319552844595200 = r at *
  unfold sz
  omega
theorem xw_int {x : Nat} (_h : x < 18446744073709551616) {s : Int} (hs : gnomonref19_Size.f (x : Int) = some s) : ((xw x : Nat) : Int) = 3256102530588868608 + s % 5404319552844595200 + (x : Int) / 9223372036854775808 * 9223372036854775808 ∧ 0 ≤ s ∧ s < 9223372036854775808 := by
  unfold gnomonref19_Size.f at hs
  rw [sz_int] at hs
  obtain rfl := Option.some.inj hs
  have h1 : sz x < 9223372036854775808 := Nat.mod_lt _ (by decide)
  unfold xw
  refine ⟨by omega, by omega, by omega⟩
theorem isF_n (n m : Nat) (hm : m ≤ 2^53) : isF 0 ((m * 2^n : Nat) : Int) := by
  refine ⟨n, Nat.zero_le _, ?_, ?_⟩
  · rw [natAbs_dvd', Int.natAbs_natCast]; exact Nat.dvd_mul_left _ _
  · rw [Int.natAbs_natCast]; exact Nat.mul_le_mul_right _ hm
theorem U_xw {x n : Nat} (hn : n = 1974) (h : x < 18446744073709551616) : fin (xw x) ∧ (U (xw x)).natAbs ≤ 2^n := by
  have h1 := xw_sz h
  refine ⟨by unfold fin INF; omega, ?_⟩
  rw [U_natAbs]
  obtain ⟨k, hk⟩ : ∃ k, k = 1922 := ⟨_, rfl⟩
  have h2 := mg_top k
  have h3 : mg (sz (xw x)) ≤ mg ((k + 1) * 2^52) := mg_le (by rw [hk]; exact h1)
  have e : 2^n = 2^52 * 2^k := by rw [← Nat.pow_add]; congr 1; omega
  omega
theorem at1022 {a n k : Nat} (hn : n = 1974) (hk : k ≤ 35184372088832) (h : (U a).natAbs ≤ k * 2^n) : sz a ≤ 2045 * 2^52 := by
  obtain ⟨j, hj⟩ : ∃ j, j = 2044 := ⟨_, rfl⟩
  have h2 := mg_top j
  rw [U_natAbs] at h
  have h3 : k * 2^n ≤ 2^52 * 2^j := Nat.mul_le_mul (Nat.le_trans hk (by decide)) (Nat.pow_le_pow_right (by decide) (by omega))
  have h4 := mg_le_iff (r := sz a) (s := (j + 1) * 2^52)
  rw [h2] at h4
  have := h4.1 (Nat.le_trans h h3)
  rw [hj] at this
  exact this
def sumU : List Nat → Int
  | [] => 0
  | x :: t => U x + sumU t
theorem sumU_snoc (L : List Nat) (e : Nat) : sumU (L ++ [e]) = sumU L + U e := by
  induction L with
  | nil => simp [sumU]
  | cons x t ih => rw [List.cons_append, sumU, sumU, ih]; omega
structure Ch (n k : Nat) (S : Int) (acc : Nat) (L : List Nat) : Prop where
  mk :: (lt : acc < 18446744073709551616) (bound : (U acc).natAbs ≤ k * 2^n) (sum : U acc + sumU L = S) (len : L.length = k) (all : ∀ e ∈ L, e < 18446744073709551616 ∧ fin e ∧ (U e).natAbs ≤ 2^46 * 2^n) (S_le : S.natAbs ≤ k * 2^n)
theorem Ch.zero (n : Nat) : Ch n 0 0 0 [] := by
  have u0 : U 0 = 0 := by decide
  exact ⟨by decide, by rw [u0, Int.natAbs_zero]; exact Nat.zero_le _, by rw [u0]; rfl, rfl, (fun e h => by cases h), by rw [Int.natAbs_zero]; exact Nat.zero_le _⟩
theorem Ch.at {n k : Nat} {S : Int} {acc : Nat} {L : List Nat} (h : Ch n k S acc L) (hn : n = 1974) (hk : k ≤ 35184372088832) : sz acc ≤ 2045 * 2^52 := at1022 hn hk h.bound
theorem isF_k {n k : Nat} (hk : k + 1 ≤ 35184372088832) : isF 0 (((k + 1) * 2^n : Nat) : Int) := isF_n n (k + 1) (by omega)
theorem le_k {n k : Nat} (hk : k + 1 ≤ 35184372088832) : (k + 1) * 2^n ≤ 35184372088832 * 2^n := Nat.mul_le_mul_right _ hk
theorem ar1 {ua ux us ue su S : Int} (i3 : us + ue = ua + ux) (h : ua + su = S) : us + (su + ue) = S + ux := by omega
theorem ar2 {ua ux us ue : Int} (i3 : us + ue = ua + ux) : ue = (ua + ux) - us := by omega
theorem twice {n k : Nat} {a b : Nat} (ha : a ≤ (k + 1) * 2^n) (hb : b ≤ (k + 1) * 2^n) (hk : (k + 1) * 2^n ≤ 35184372088832 * 2^n) : a + b ≤ 2^46 * 2^n := by
  have e : 2^46 * 2^n = 35184372088832 * 2^n + 35184372088832 * 2^n := by rw [← Nat.add_mul]
  omega
theorem Ch.step {n k : Nat} {S : Int} {acc : Nat} {L : List Nat} (h : Ch n k S acc L) (hn : n = 1974) (hk : k + 1 ≤ 35184372088832) {x s e : Nat} (hx : x < 18446744073709551616) (hs : s < 18446744073709551616) (he : e < 18446744073709551616) (hR : TwoSumR acc (xw x) s e) :
    Ch n (k + 1) (S + U (xw x)) s (L ++ [e]) ∧ sz s ≤ 2045 * 2^52 := by
  obtain ⟨_, ux⟩ := U_xw hn hx
  have sx : sz (xw x) ≤ 2045 * 2^52 := Nat.le_trans (xw_sz hx) (by decide)
  obtain ⟨i1, i2, i3⟩ := twoSum_law hR (h.at hn (by omega)) sx
  have v := val0 i1
  have hb := h.bound
  have hS := h.S_le
  have e1 : (k + 1) * 2^n = k * 2^n + 2^n := by rw [Nat.add_mul, Nat.one_mul]
  have hu : (U acc + U (xw x)).natAbs ≤ (k + 1) * 2^n := by
    rw [e1]
    exact Nat.le_trans (Int.natAbs_add_le _ _) (Nat.add_le_add hb ux)
  have hS2 : (S + U (xw x)).natAbs ≤ (k + 1) * 2^n := by
    rw [e1]
    exact Nat.le_trans (Int.natAbs_add_le _ _) (Nat.add_le_add hS ux)
  have hr := rn_bound (isF_k hk) hu
  rw [← v] at hr
  have hle := le_k (n := n) hk
  have hsum := h.sum
  have hlen := h.len
  have hall := h.all
  refine ⟨⟨hs, hr, ?_, by rw [List.length_append, hlen]; rfl, ?_, hS2⟩, at1022 hn (by omega) hr⟩
  · rw [sumU_snoc]; exact ar1 i3 hsum
  · intro y hy
    rcases List.mem_append.1 hy with hy | hy
    · exact hall y hy
    · rw [List.mem_singleton.1 hy]
      refine ⟨he, i2.fin, ?_⟩
      rw [ar2 i3]
      exact Nat.le_trans (Int.natAbs_sub_le _ _) (twice hu hr hle)
theorem Zs_n {n : Nat} (hn : n = 1974) {z : Int} {m : Nat} (hm : m ≤ 2^92) (h : z.natAbs ≤ m * 2^n) : Zs z := by
  refine Zs_of (k := 93 + n) ?_ (by omega)
  rw [Nat.pow_add]
  have h1 : m * 2^n ≤ 2^92 * 2^n := Nat.mul_le_mul_right _ hm
  have h2 := Nat.two_pow_pos n
  omega
theorem plus_ev {n : Nat} (hn : n = 1974) {z : Int} {m : Nat} (hm : m ≤ 2^91) (h : z.natAbs ≤ m * 2^n) {x : Nat} (hx : x < 18446744073709551616) (ux : (U x).natAbs ≤ 2^46 * 2^n) : Ev (fun k => gnomonlaw19_plus.f k (zn z) (zl z) (x : Int)) (zn (z + U x), zl (z + U x)) := by
  unfold gnomonlaw19_plus.f
  have zx : Zs (U x) := Zs_n hn (m := 2^46) (by decide) ux
  have z1 : Zs z := Zs_n hn (by omega) h
  have z2 : Zs (z + U x) := by
    refine Zs_n hn (m := m + 2^46) (by omega) ?_
    rw [Nat.add_mul]; omega
  exact Ev.bind (units_ev x hx) (Ev.bind (zadd_ev z (U x) z1 zx z2) (Ev.now _))
theorem same_ev {n : Nat} (hn : n = 1974) {z : Int} {m : Nat} (hm : m ≤ 2^91) (h : z.natAbs ≤ m * 2^n) : Ev (fun k => gnomonlaw19_same.f k (zn z) (zl z) (zn z) (zl z)) true := by
  unfold gnomonlaw19_same.f
  have z1 : Zs z := Zs_n hn (by omega) h
  have hc := zcmp_ev z z z1 z1 (by rw [Int.sub_self]; exact Zs_n hn (m := 0) (by decide) (by simp))
  rw [Int.sub_self] at hc
  exact Ev.bind hc (Ev.now _)
theorem back_le {n k : Nat} {S : Int} {acc : Nat} {L : List Nat} (h : Ch n k S acc L) (j : Nat) (hj : j ≤ k) : (U acc + sumU (L.take j)).natAbs ≤ (k + j * 2^46) * 2^n := by
  induction j with
  | zero => have := h.bound; simp [sumU]; omega
  | succ j ih =>
    have hl := h.len
    have h1 := ih (by omega)
    rw [List.take_succ_eq_append_getElem (by omega), sumU_snoc]
    have h2 := (h.all L[j] (List.getElem_mem _)).2.2
    have e1 : (k + (j + 1) * 2^46) * 2^n = (k + j * 2^46) * 2^n + 2^46 * 2^n := by rw [← Nat.add_mul]; congr 1; omega
    omega
theorem back_m {k j : Nat} (hk : k ≤ 2^44) (hj : j ≤ k) : k + j * 2^46 ≤ 2^91 := by omega
end Go.Proofs.Ytbgmadijifefiaa.Chain
