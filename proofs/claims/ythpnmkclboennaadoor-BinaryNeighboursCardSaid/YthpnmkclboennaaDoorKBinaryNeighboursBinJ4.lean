/- The program's Join in one row. Conditions: words below 2^64, exponents from low - 64 to low + 3500; math/bits' table is laid. -/
import Derived.Test.YthpnmkclboennaaDoorKBinaryNeighboursBinJ3
namespace Go.Proofs.YthpnmkclboennaaDoor.BinJ4
open Go.RowKit Go.Proofs.YthpnmkclboennaaDoorW.PrintWords Go.Proofs.YthpnmkclboennaaDoorW.PrintMore Go.Proofs.YthpnmkclboennaaDoorW.PrintLast Go.Proofs.YthpnmkclboennaaDoor.Num Go.Proofs.YthpnmkclboennaaDoor.Ref Go.Proofs.YthpnmkclboennaaDoor.BinLaw Go.Proofs.YthpnmkclboennaaDoor.BinA Go.Proofs.YthpnmkclboennaaDoor.BinO2 Go.Proofs.YthpnmkclboennaaDoor.BinF Go.Proofs.YthpnmkclboennaaDoor.BinW Go.Proofs.YthpnmkclboennaaDoor.BinTab Go.Proofs.YthpnmkclboennaaDoor.BinM Go.Proofs.YthpnmkclboennaaDoor.BinLen Go.Proofs.YthpnmkclboennaaDoor.BinJ Go.Proofs.YthpnmkclboennaaDoor.BinJ2 Go.Proofs.YthpnmkclboennaaDoor.BinJ3
def szF (F : Fmt) (N : Nat) : Nat := if bl N < F.man then N else (bl N - F.man) * hdF F + N / 2^(bl N - F.man)
def jnF (F : Fmt) (neg : Bool) (man : Nat) (e : Int) : Nat × Int :=
  if man = 0 then (if neg then F.sg else 0, 0) else
  if F.man < bl (man / 2^(Lib.ctz 64 man)) ∨ e + (Lib.ctz 64 man : Nat) < F.low then (0, 5) else
  if F.inf ≤ szF F (man / 2^(Lib.ctz 64 man) * 2^(e + (Lib.ctz 64 man : Nat) - F.low).toNat) then (0, 5) else
  (if neg then F.sg + szF F (man / 2^(Lib.ctz 64 man) * 2^(e + (Lib.ctz 64 man : Nat) - F.low).toNat) else szF F (man / 2^(Lib.ctz 64 man) * 2^(e + (Lib.ctz 64 man : Nat) - F.low).toNat), 0)
theorem fm_hd2 {f : Int} {F : Fmt} (h : Fm f F) : hdF F = 2^(F.man - 1) ∧ hdF F < F.inf := by
  rcases h with ⟨_, rfl⟩ | ⟨_, rfl⟩
  · exact ⟨by decide, by decide⟩
  · exact ⟨by decide, by decide⟩
theorem sz_low {f : Int} {F : Fmt} (h : Fm f F) {o d : Nat} (ho : o ≠ 0) (hn : bl o ≤ F.man) (hlt : o * 2^(min (F.man - bl o) d) < hdF F) : szF F (o * 2^d) = o * 2^(min (F.man - bl o) d) ∧ szF F (o * 2^d) < F.inf := by
  have hP := fm_man h
  obtain ⟨h1, h2⟩ := fm_hd2 h
  have hm : bl (o * 2^(min (F.man - bl o) d)) ≤ F.man - 1 := bl_le_of_lt (by rw [← h1]; exact hlt)
  rw [bl_mul _ _ ho] at hm
  have hu : min (F.man - bl o) d = d := by omega
  have e : szF F (o * 2^d) = o * 2^d := by
    unfold szF
    rw [bl_mul _ _ ho, if_pos (by omega)]
  rw [hu] at hlt ⊢
  exact ⟨e, by omega⟩
theorem sz_high {f : Int} {F : Fmt} (h : Fm f F) {o d : Nat} (ho : o ≠ 0) (hn : bl o ≤ F.man) (hge : hdF F ≤ o * 2^(min (F.man - bl o) d)) : szF F (o * 2^d) = (d - min (F.man - bl o) d) * hdF F + o * 2^(min (F.man - bl o) d) := by
  have hP := fm_man h
  obtain ⟨h1, h2⟩ := fm_hd2 h
  have hm : F.man ≤ bl (o * 2^(min (F.man - bl o) d)) := by
    by_cases c : F.man ≤ bl (o * 2^(min (F.man - bl o) d))
    · exact c
    · exfalso
      have := F_of_bl (o := o * 2^(min (F.man - bl o) d)) (n := F.man - 1) (by omega)
      rw [← h1] at this; omega
  rw [bl_mul _ _ ho] at hm
  have hu : min (F.man - bl o) d = F.man - bl o := by omega
  unfold szF
  rw [bl_mul _ _ ho, if_neg (by omega), hu]
  have e1 : bl o + d - F.man = d - (F.man - bl o) := by omega
  rw [e1]
  congr 1
  have e2 : o * 2^d = o * 2^(F.man - bl o) * 2^(d - (F.man - bl o)) := by
    rw [Nat.mul_assoc, ← Nat.pow_add]; congr 2; omega
  rw [e2, Nat.mul_div_cancel _ (Nat.two_pow_pos _)]
theorem Join_any {f : Int} {F : Fmt} (h : Fm f F) (neg : Bool) (man : Nat) (e : Int) (hm : man < 18446744073709551616) (lo : F.low - 64 ≤ e) (hi : e ≤ F.low + 3500) (w : World) (hT : Tab w) :
    Calls Tryd.prog 24 #[.int .i64 f, .bool neg, .int .u64 man, .int .i64 e] w fun e' w' => e' = .returned (.tuple #[.int .u64 (jnF F neg man e).1, .int .i64 (jnF F neg man e).2]) ∧ Below w.heap.size w w' := by
  by_cases h0 : man = 0
  · subst h0
    have e1 : jnF F neg 0 e = (if neg then F.sg else 0, 0) := by unfold jnF; rw [if_pos rfl]
    rw [e1]
    exact join_zero h neg e w
  · have ho := (odd_ne h0 hm).1
    obtain ⟨_, _, hc⟩ := ctz_spec h0 hm
    have J : JF F man (Lib.ctz 64 man) (man / 2^(Lib.ctz 64 man)) (e + (Lib.ctz 64 man : Nat)) e := ⟨h0, hm, rfl, hc, rfl, rfl, lo, hi⟩
    by_cases hl : F.man < bl (man / 2^(Lib.ctz 64 man)) ∨ e + (Lib.ctz 64 man : Nat) < F.low
    · have e1 : jnF F neg man e = (0, 5) := by unfold jnF; rw [if_neg h0, if_pos hl]
      rw [e1]
      exact join_limit h neg _ _ _ _ _ J w hT hl
    · have e1 : jnF F neg man e = if F.inf ≤ szF F (man / 2^(Lib.ctz 64 man) * 2^(e + (Lib.ctz 64 man : Nat) - F.low).toNat) then (0, 5) else
          (if neg then F.sg + szF F (man / 2^(Lib.ctz 64 man) * 2^(e + (Lib.ctz 64 man : Nat) - F.low).toNat) else szF F (man / 2^(Lib.ctz 64 man) * 2^(e + (Lib.ctz 64 man : Nat) - F.low).toNat), 0) := by
        unfold jnF; rw [if_neg h0, if_neg hl]
      rw [e1]
      have hn : bl (man / 2^(Lib.ctz 64 man)) ≤ F.man := by omega
      have hd : e + (Lib.ctz 64 man : Nat) = F.low + ((e + (Lib.ctz 64 man : Nat) - F.low).toNat : Nat) := by omega
      generalize (e + (Lib.ctz 64 man : Nat) - F.low).toNat = d at *
      generalize man / 2^(Lib.ctz 64 man) = o at *
      by_cases hlt : o * 2^(min (F.man - bl o) d) < hdF F
      · obtain ⟨a, b⟩ := sz_low h ho hn hlt
        rw [if_neg (by omega), a]
        exact join_sub h neg _ _ _ d _ _ _ _ J w hT hn hd rfl rfl hlt
      · have a := sz_high (d := d) h ho hn (by omega)
        by_cases c : F.inf ≤ szF F (o * 2^d)
        · rw [if_pos c]
          exact join_big h neg _ _ _ d _ _ _ _ _ J w hT hn hd rfl rfl (by omega) a.symm c
        · rw [if_neg c]
          exact join_norm h neg _ _ _ d _ _ _ _ _ J w hT hn hd rfl rfl (by omega) a.symm (by omega)
end Go.Proofs.YthpnmkclboennaaDoor.BinJ4
