/- The products of halves in the spelling of the walk: sizes of words. Plain Lean. -/
import Derived.Test.YtbgmadijifefiaaKEftHalvesHalvesB
import Derived.Test.YtbgmadijifefiaaKEftHalvesSumsLaw
namespace Go.Proofs.Ytbgmadijifefiaa.HalvesC
open Go.RowKit Go.Proofs.YtbgmadijifefiaaW.PrintWords Go.Proofs.YtbgmadijifefiaaW.PrintMore Go.Proofs.Ytbgmadijifefiaa.Num Go.Proofs.Ytbgmadijifefiaa.PLib Go.Proofs.Ytbgmadijifefiaa.Ref Go.Proofs.Ytbgmadijifefiaa.FW Go.Proofs.Ytbgmadijifefiaa.Eft Go.Proofs.Ytbgmadijifefiaa.EftLaw Go.Proofs.Ytbgmadijifefiaa.SumsLaw Fl
theorem size_f (x : Nat) : gnomonref19_Size.f (x : Int) = some ((sz x : Nat) : Int) := by
  unfold gnomonref19_Size.f; rw [sz_int]
theorem sz_U {x : Nat} : sz x = 0 ↔ U x = 0 := by
  have h := U_natAbs x
  constructor
  · intro h0; rw [h0] at h
    have : mg 0 = 0 := rfl
    omega
  · intro h0; rw [h0] at h
    exact mg_zero.1 h.symm
theorem sized (x : Nat) : ∃ s : Int, gnomonref19_Size.f (x : Int) = some s ∧ (s = 0 ↔ U x = 0) :=
  ⟨_, size_f x, by rw [← sz_U]; omega⟩
theorem half_prod {x y p e : Nat} (hR : ProdR x y p e) (hx : Half x) (hy : Half y) : U e = 0 ∧ (U x ≠ 0 → U y ≠ 0 → U p ≠ 0) := by
  obtain ⟨i, i1, i2, i3⟩ := hx.out
  obtain ⟨j, j1, j2, j3⟩ := hy.out
  obtain ⟨g, hg⟩ : ∃ g, g = 1074 := ⟨_, rfl⟩
  obtain ⟨n, hn⟩ : ∃ n, n = 1560 := ⟨_, rfl⟩
  have b1 := hx.le n hn
  have b2 := hy.le n hn
  have hb : (U x * U y).natAbs ≤ 2^50 * T0 * 2^g := by
    rw [Int.natAbs_mul]
    have h1 := Nat.mul_le_mul b1 b2
    have e1 : 2^50 * T0 * 2^g = 2^(50 + TE + g) := by rw [Nat.pow_add, Nat.pow_add]; rfl
    rw [← Nat.pow_add] at h1
    rw [e1]
    refine Nat.le_trans h1 (Nat.pow_le_pow_right (by decide) ?_)
    have := TE_eq
    omega
  have h := halves_prod hg hR i2 i3 j2 j3 (by omega) hx.sz hy.sz hb
  exact ⟨h.2.1, h.2.2⟩
theorem half_split {h j o : Nat} (hR : SplitR h j o) (hx : Half h) (h0 : U h ≠ 0) (lh : h < 18446744073709551616) (lj : j < 18446744073709551616) : j = h ∧ U o = 0 := by
  obtain ⟨i, i1, i2, i3⟩ := hx.out
  obtain ⟨_, _, _, _, c⟩ := split_law hR hx.sz
  obtain ⟨e1, e2⟩ := half_again c i2 i3
  refine ⟨?_, e1⟩
  rcases U_inj lj lh e2 with h1 | h1
  · exact h1
  · exact absurd (sz_U.1 h1.2) h0
theorem pow400 : gnomonref19_Pow.f (-400) = some 2805742567851819008 := by
  unfold gnomonref19_Pow.f wrap64
  rw [IntKind.wrap_u64, IntKind.wrap_u64]
  decide
theorem at480 (a : Nat) : ∃ c : Bool, (c = true → sz a ≤ 1503 * 2^52) ∧ gnomonref19_AtMost.f (a : Int) 480 = some c :=
  ⟨_, fun h => of_decide_eq_true h, atMost_f a 480 (by decide)⟩
theorem ge400 {a : Nat} {s : Int} (h : gnomonref19_Size.f (a : Int) = some s) (hs : ¬ s < 2805742567851819008) : 623 * 2^52 ≤ sz a := by
  rw [size_f] at h
  obtain rfl := Option.some.inj h
  have : (623 * 2^52 : Nat) = 2805742567851819008 := by decide
  omega
end Go.Proofs.Ytbgmadijifefiaa.HalvesC
