/- The order of two values of a format is that of their ranks. Conditions: finite words; math/bits' table is laid. -/
import Derived.Test.YthpnmkclboennaaDoorKBinaryNeighboursNtF
import Derived.Test.YthpnmkclboennaaDoorKBinaryNeighboursBinaryRejoinsW
import Derived.Test.YthpnmkclboennaaDoorKBinaryNeighboursBinRj
namespace Go.Proofs.YthpnmkclboennaaDoor.NtV
open Go.RowKit Go.Proofs.YthpnmkclboennaaDoorW.PrintWords Go.Proofs.YthpnmkclboennaaDoorW.PrintMore Go.Proofs.YthpnmkclboennaaDoorW.PrintLast Go.Proofs.YthpnmkclboennaaDoor.Num Go.Proofs.YthpnmkclboennaaDoor.Ref Go.Proofs.YthpnmkclboennaaDoor.BinLaw Go.Proofs.YthpnmkclboennaaDoor.BinA Go.Proofs.YthpnmkclboennaaDoor.BinO2 Go.Proofs.YthpnmkclboennaaDoor.BinF Go.Proofs.YthpnmkclboennaaDoor.BinG Go.Proofs.YthpnmkclboennaaDoor.BinW Go.Proofs.YthpnmkclboennaaDoor.BinTab Go.Proofs.YthpnmkclboennaaDoor.BinM Go.Proofs.YthpnmkclboennaaDoor.BinM2 Go.Proofs.YthpnmkclboennaaDoor.BinV1 Go.Proofs.YthpnmkclboennaaDoor.BinNg3 Go.Proofs.YthpnmkclboennaaDoor.BinWL Go.Proofs.YthpnmkclboennaaDoor.BinWL2 Go.Proofs.YthpnmkclboennaaDoor.BinaryRejoinsW Go.Proofs.YthpnmkclboennaaDoor.NtTh Go.Proofs.YthpnmkclboennaaDoor.NtA Go.Proofs.YthpnmkclboennaaDoor.NtB Go.Proofs.YthpnmkclboennaaDoor.NtC Go.Proofs.YthpnmkclboennaaDoor.NtD Go.Proofs.YthpnmkclboennaaDoor.NtE Go.Proofs.YthpnmkclboennaaDoor.NtF
theorem at_one {w : World} {G o n : Nat} (h : At1 w G o n) (hn : n < 18446744073709551616) (h0 : n ≠ 0) : Nt w (some ⟨G, o, none⟩) 1 n := by
  have e := nl_one h0 hn
  refine ⟨by rw [e]; exact Nat.le_refl _, .inr ⟨G, o, rfl, nl_lt n, fun j hj => ?_⟩⟩
  obtain rfl : j = 0 := by omega
  have : dw n 0 = n := by unfold dw; rw [pw_zero, Nat.div_one, Nat.mod_eq_of_lt hn]
  rw [this]; exact h.cell
theorem nt_zero (w : World) : Nt w none 0 0 := ⟨Nat.le_refl _, .inl ⟨rfl, rfl, rfl, rfl⟩⟩
def od (n : Nat) : Nat := if n = 0 then 0 else n / 2^(Lib.ctz 64 n)
theorem dy_of_p {w : World} {A : Option Addr} {c : Nat} {neg : Bool} {n : Nat} {x : Int} (h : DyP w A c neg (dyl n) x) : Dy w neg A c (od n) x ∧ (dyl n).length = nl (od n) := by
  have lo := h.lo
  have hi := h.hi
  by_cases c0 : n = 0
  · obtain ⟨rfl, rfl, rfl, rfl⟩ := h.nil (by rw [c0]; rfl)
    have e : od n = 0 := if_pos c0
    rw [e]
    exact ⟨⟨nt_zero w, by decide, fun _ => ⟨rfl, rfl⟩, fun h => absurd rfl h, by omega, by omega⟩, by rw [c0]; rfl⟩
  · have e : dyl n = [((n / 2^(Lib.ctz 64 n) : Nat) : Int)] := by unfold dyl; rw [if_neg c0]
    obtain ⟨G, m, rfl, rfl, e1, hA, ho, hm⟩ := h.one (by rw [e]; exact List.cons_ne_nil _ _)
    have e2 : od n = m := by
      rw [e] at e1
      injection e1 with e1
      unfold od
      rw [if_neg c0]
      exact Int.ofNat.inj e1
    have m0 : m ≠ 0 := by intro c; rw [c] at ho; exact absurd ho (by decide)
    rw [e2]
    exact ⟨⟨at_one hA hm m0, by rw [nl_one m0 hm]; decide, fun c => absurd c m0, fun _ => ho, by omega, by omega⟩, by rw [e, nl_one m0 hm]; rfl⟩
def sv (F : Fmt) (b : Nat) : Int := if F.sg ≤ b then -((nF F (b % F.sg) : Nat) : Int) else ((nF F (b % F.sg) : Nat) : Int)
theorem od_scale (F : Fmt) (s : Nat) (hs : mgF F s < 18446744073709551616) : od (mgF F s) * 2^(dyx (mgF F s) (xpF F s) - F.low).toNat = nF F s := by
  unfold nF
  by_cases c : mgF F s = 0
  · rw [c]
    have : od 0 = 0 := rfl
    rw [this, Nat.zero_mul, Nat.zero_mul]
  · obtain ⟨m, hm, _⟩ := ctz_spec c hs
    have e1 : od (mgF F s) = 2 * m + 1 := by
      unfold od
      rw [if_neg c]
      generalize Lib.ctz 64 (mgF F s) = t at *
      rw [hm, Nat.mul_div_cancel_left _ (Nat.two_pow_pos _)]
    have e2 : (dyx (mgF F s) (xpF F s) - F.low).toNat = Lib.ctz 64 (mgF F s) + dF F s := by
      unfold dyx
      rw [if_neg c, xp_d]
      omega
    rw [e1, e2, Nat.pow_add]
    conv => rhs; rw [hm]
    ac_rfl
theorem low_le (F : Fmt) (s : Nat) (hl : F.low ≤ 0) : F.low ≤ dyx (mgF F s) (xpF F s) := by
  unfold dyx
  split
  · exact hl
  · rw [xp_d]; omega
theorem sgn_eq {z z' : Int} (h1 : z < 0 ↔ z' < 0) (h2 : 0 < z ↔ 0 < z') : sgn z = sgn z' := by
  unfold sgn
  (repeat' split) <;> omega
theorem dcm_num (neg : Bool) (m : Nat) (x : Int) (neg' : Bool) (m' : Nat) (x' L : Int) (h : L ≤ x) (h' : L ≤ x') {N N' : Nat} (hN : m * 2^(x - L).toNat = N) (hN' : m' * 2^(x' - L).toNat = N') :
    dcm neg m x neg' m' x' = sgn ((if neg then -(N : Int) else (N : Int)) - (if neg' then -(N' : Int) else (N' : Int))) := by
  obtain ⟨d, hd⟩ : ∃ d, d = (min x x' - L).toNat := ⟨_, rfl⟩
  have e1 : N = m * 2^(x - min x x').toNat * 2^d := by
    rw [← hN, Nat.mul_assoc, ← Nat.pow_add]; congr 2; omega
  have e2 : N' = m' * 2^(x' - min x x').toNat * 2^d := by
    rw [← hN', Nat.mul_assoc, ← Nat.pow_add]; congr 2; omega
  have p1 := Nat.two_pow_pos (x - min x x').toNat
  have p2 := Nat.two_pow_pos (x' - min x x').toNat
  have p3 := Nat.two_pow_pos d
  have z1 : N = 0 ↔ m = 0 := by
    rw [e1]
    constructor
    · intro e
      rcases Nat.mul_eq_zero.1 e with e | e
      · rcases Nat.mul_eq_zero.1 e with e | e
        · exact e
        · omega
      · omega
    · rintro rfl; simp
  have z2 : N' = 0 ↔ m' = 0 := by
    rw [e2]
    constructor
    · intro e
      rcases Nat.mul_eq_zero.1 e with e | e
      · rcases Nat.mul_eq_zero.1 e with e | e
        · exact e
        · omega
      · omega
    · rintro rfl; simp
  have o1 : m * 2^(x - min x x').toNat < m' * 2^(x' - min x x').toNat ↔ N < N' := by rw [e1, e2]; exact (Nat.mul_lt_mul_right p3).symm
  have o2 : m' * 2^(x' - min x x').toNat < m * 2^(x - min x x').toNat ↔ N' < N := by rw [e1, e2]; exact (Nat.mul_lt_mul_right p3).symm
  have key : szc m x m' x' = cm N N' := by
    unfold szc cm
    by_cases c : m * 2^(x - min x x').toNat < m' * 2^(x' - min x x').toNat
    · rw [if_pos c, if_pos (o1.1 c)]
    · rw [if_neg c, if_neg (fun e => c (o1.2 e))]
      by_cases c' : m' * 2^(x' - min x x').toNat < m * 2^(x - min x x').toNat
      · rw [if_pos c', if_pos (o2.1 c')]
      · rw [if_neg c', if_neg (fun e => c' (o2.2 e))]
  unfold dcm
  rw [key]
  clear key o1 o2 e1 e2 hN hN' p1 p2 p3 hd
  have a1 : sg neg m = if N = 0 then 0 else if neg then -1 else 1 := by
    unfold sg
    by_cases c : m = 0
    · rw [if_pos c, if_pos (z1.2 c)]
    · rw [if_neg c, if_neg (fun e => c (z1.1 e))]
  have a2 : sg neg' m' = if N' = 0 then 0 else if neg' then -1 else 1 := by
    unfold sg
    by_cases c : m' = 0
    · rw [if_pos c, if_pos (z2.2 c)]
    · rw [if_neg c, if_neg (fun e => c (z2.1 e))]
  rw [a1, a2]
  unfold cm sgn
  cases neg <;> cases neg' <;> simp only [if_true, if_false, Bool.false_eq_true] <;>
    (by_cases c1 : N = 0 <;> by_cases c2 : N' = 0 <;> simp only [c1, c2, if_true, if_false] <;> (repeat' split) <;> omega)
theorem sv_lt {f : Int} {F : Fmt} (h : Fm f F) (a b : Nat) : (sv F a < sv F b ↔ rkN F a < rkN F b) := by
  have o1 := nF_iff h (s := a % F.sg) (t := b % F.sg)
  have o2 := nF_iff h (s := b % F.sg) (t := a % F.sg)
  have o3 := nF_iff h (s := 0) (t := a % F.sg)
  have o4 := nF_iff h (s := 0) (t := b % F.sg)
  rw [nF_zero] at o3 o4
  unfold sv rkN
  generalize nF F (a % F.sg) = n1 at *
  generalize nF F (b % F.sg) = n2 at *
  generalize a % F.sg = a1 at *
  generalize b % F.sg = b1 at *
  by_cases cA : F.sg ≤ a <;> by_cases cB : F.sg ≤ b
  · rw [if_pos cA, if_pos cB, if_pos cA, if_pos cB]; omega
  · rw [if_pos cA, if_neg cB, if_pos cA, if_neg cB]; omega
  · rw [if_neg cA, if_pos cB, if_neg cA, if_pos cB]; omega
  · rw [if_neg cA, if_neg cB, if_neg cA, if_neg cB]; omega
def vneg (F : Fmt) (b : Nat) : Bool := decide (F.sg ≤ b) && decide (mgF F (b % F.sg) ≠ 0)
def vman (F : Fmt) (b : Nat) : Nat := od (mgF F (b % F.sg))
def vexp (F : Fmt) (b : Nat) : Int := dyx (mgF F (b % F.sg)) (xpF F (b % F.sg))
theorem vcm {f : Int} {F : Fmt} (h : Fm f F) (a b : Nat) : dcm (vneg F a) (vman F a) (vexp F a) (vneg F b) (vman F b) (vexp F b) = sgn (rkN F a - rkN F b) := by
  have hlow := fm_low h
  have e53 : (2 : Nat)^53 = 9007199254740992 := by decide
  have m1 := mg_lt53 h (a % F.sg)
  have m2 := mg_lt53 h (b % F.sg)
  rw [e53] at m1 m2
  unfold vman vexp
  rw [dcm_num _ _ _ _ _ _ F.low (low_le F _ (by omega)) (low_le F _ (by omega)) (od_scale F (a % F.sg) (by omega)) (od_scale F (b % F.sg) (by omega))]
  have key : ∀ c : Nat, (if vneg F c then -((nF F (c % F.sg) : Nat) : Int) else ((nF F (c % F.sg) : Nat) : Int)) = sv F c := by
    intro c
    unfold vneg sv
    by_cases c1 : mgF F (c % F.sg) = 0
    · have : nF F (c % F.sg) = 0 := by unfold nF; rw [c1, Nat.zero_mul]
      rw [this]; simp
    · rw [decide_eq_true c1, Bool.and_true]
      by_cases c2 : F.sg ≤ c
      · rw [decide_eq_true c2, if_pos rfl, if_pos c2]
      · rw [decide_eq_false c2, if_neg (by decide), if_neg c2]
  rw [key, key]
  have o1 := sv_lt h a b
  have o2 := sv_lt h b a
  exact sgn_eq (by omega) (by omega)
structure VW (neg : Bool) (m : Nat) (x : Int) (w : World) (e : Ending) (w' : World) : Prop where mk :: (ex : ∃ A c, e = .returned (.tuple #[.agg #[.bool neg, .slice A (nl m) c, .int .i64 x], .int .i64 0]) ∧ Dy w' neg A c m x) (below : Below w.heap.size w w')
theorem Value_v {f : Int} {F : Fmt} (h : Fm f F) (b : Nat) (h2 : b < 2 * F.sg) (hi : b % F.sg < F.inf) (w : World) (hT : Tab w) : Calls Tryd.prog 13 #[.int .i64 f, .int .u64 b] w (VW (vneg F b) (vman F b) (vexp F b) w) :=
  (Value_q h b h2 hi w hT).mono fun e w' ⟨⟨A, c, he, _, hp⟩, hb⟩ => by
    obtain ⟨hd, hl⟩ := dy_of_p hp
    rw [hl] at he
    exact ⟨⟨A, c, he, hd⟩, hb⟩
end Go.Proofs.YthpnmkclboennaaDoor.NtV
