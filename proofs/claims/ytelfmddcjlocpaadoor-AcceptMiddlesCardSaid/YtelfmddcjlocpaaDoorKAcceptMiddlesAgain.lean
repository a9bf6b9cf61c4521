/- Accept's sureness told in layer 8's words of sizes and cells. Plain lemmas. Conditions: binary64. The same call gives the same words again, or NaNs both times. Plain Lean over the contracts of the float functions. No condition. -/
import Derived.Test.YtelfmddcjlocpaaDoorKAcceptMiddlesRp7
import Derived.Test.YtelfmddcjlocpaaDoorKAcceptMiddlesSoundLaw
import Derived.Test.YtelfmddcjlocpaaDoorKAcceptMiddlesProdB
import Derived.Test.YtelfmddcjlocpaaDoorKAcceptMiddlesEft
import Derived.Test.YtelfmddcjlocpaaDoorKAcceptMiddlesFlCmp
section
set_option linter.unusedVariables false
namespace Go.Proofs.YtelfmddcjlocpaaDoor.AccRL
open Go.RowKit Go.Proofs.YtelfmddcjlocpaaDoorW.PrintWords Go.Proofs.YtelfmddcjlocpaaDoorW.PrintMore Go.Proofs.YtelfmddcjlocpaaDoor.Num Go.Proofs.YtelfmddcjlocpaaDoor.PLib Go.Proofs.YtelfmddcjlocpaaDoor.Ref Go.Proofs.YtelfmddcjlocpaaDoor.GTh Go.Proofs.YtelfmddcjlocpaaDoor.Given Go.Proofs.YtelfmddcjlocpaaDoor.Rp1 Go.Proofs.YtelfmddcjlocpaaDoor.Rp2 Go.Proofs.YtelfmddcjlocpaaDoor.Rp3 Go.Proofs.YtelfmddcjlocpaaDoor.Rp4 Go.Proofs.YtelfmddcjlocpaaDoor.Rp5 Go.Proofs.YtelfmddcjlocpaaDoor.Rp7 Go.Proofs.YtelfmddcjlocpaaDoor.BinLaw Go.Proofs.YtelfmddcjlocpaaDoor.Fm8 Go.Proofs.YtelfmddcjlocpaaDoor.Rnd Go.Proofs.YtelfmddcjlocpaaDoor.InCell Go.Proofs.YtelfmddcjlocpaaDoor.AccW Go.Proofs.YtelfmddcjlocpaaDoor.SoundLaw
open Fl (mg sz ng U fin INF U_natAbs)
theorem fmD : Fm 64 fD := .inr ⟨rfl, rfl⟩
theorem hd_52 : hdF fD = 4503599627370496 := by decide
theorem sg_63 : fD.sg = 9223372036854775808 := rfl
theorem inf_v : fD.inf = 9218868437227405312 := rfl
theorem nF_mg (s : Nat) : nF fD s = mg s := by
 unfold nF mgF dF mg
 rw [hd_52]
 by_cases c : s < 2^52
 ·have e : s / 4503599627370496 = 0 := by omega
  rw [if_pos c, e, if_pos rfl, show s % 4503599627370496 = s by omega]
  simp
 ·rw [if_neg c, if_neg (by omega)]
theorem low_v : fD.low = -1074 := rfl
theorem pat_w {x : Nat} (h : x < 18446744073709551616) : pat fD (ng x) (sz x) = x := by
 unfold pat ng sz
 rw [sg_63]
 by_cases c : (x / 2^63 % 2 == 1) = true
 ·rw [if_pos c]
  have := beq_iff_eq.1 c
  omega
 ·rw [if_neg c]
  have : ¬ x / 2^63 % 2 = 1 := fun e => c (beq_iff_eq.2 e)
  omega
theorem U_sv (x : Nat) : U x = sv (ng x) (nF fD (sz x)) := by unfold U sv; rw [nF_mg]
theorem bl_nF {s : Nat} (hs : s < fD.sg) : bl (nF fD s) ≤ 2101 := by
 have := dF_le fmD hs
 by_cases c : mgF fD s = 0
 ·unfold nF; rw [c, Nat.zero_mul]; decide
 ·unfold nF
  rw [bl_mul _ _ c]
  have : bl (mgF fD s) ≤ 53 := bl_le_of_lt (mg_lt fmD s)
  omega
theorem near_dy {E : Int} {n : Bool} {m : Nat} {x V : Int} (h : Dy E n m x V) {K : Nat} (hE : E = -1074 - (K : Int)) : Ev (fun k => round_Nearest.f k 64 n (lb m) x) (((Rp4.pv fD K V : Nat) : Int), 0) := by
 have e := nearest_ev fmD h.dk h.le (show E ≤ fD.low by rw [low_v]; omega)
 rw [rnd_pv fD h.dk, h.va, show (fD.low - E).toNat = K by rw [low_v]; omega] at e
 exact e
theorem inc_nat {W : Int} {n r : Nat} (h1 : InC (W * 2^n) (((2^n : Nat) : Int) + 1) r) (h2 : InC (W * 2^n) (((2^n : Nat) : Int) - 1) r) :
  decide (W < 0) = ng r ∧ sz r ≠ 0 ∧ sz r + 1 < INF ∧ low (sz r) * (2^n + 1) ≤ 2 * (W.natAbs * 2^n) ∧ 2 * (W.natAbs * 2^n) ≤ high (sz r) * (2^n - 1) := by
 obtain ⟨a1, a2, a3, a4⟩ := h1
 obtain ⟨_, _, _, b4⟩ := h2
 have hp : 1 ≤ 2^n := Nat.two_pow_pos n
 have e : (W * 2^n).natAbs = W.natAbs * 2^n := by
  have : ((2 : Int)^n) = ((2^n : Nat) : Int) := by push_cast; rfl
  rw [Int.natAbs_mul, this, Int.natAbs_natCast]
 rw [e] at a4 b4
 have c1 : (low (sz r) : Int) * (((2^n : Nat) : Int) + 1) ≤ 2 * ((W.natAbs * 2^n : Nat) : Int) := by
  split at a4
  ·exact a4.1
  ·omega
 have c2 : 2 * ((W.natAbs * 2^n : Nat) : Int) ≤ (high (sz r) : Int) * (((2^n : Nat) : Int) - 1) := by
  split at b4
  ·exact b4.2
  ·omega
 refine ⟨?_, a2, a3, ?_, ?_⟩
 ·rw [← a1]
  unfold Ref.zn
  rw [decide_eq_decide]
  have hp' : (0 : Int) < 2^n := by
   have : ((2 : Int)^n) = ((2^n : Nat) : Int) := by push_cast; rfl
   rw [this]; omega
  constructor
  ·intro h; exact Int.mul_neg_of_neg_of_pos h hp'
  ·intro h
   by_cases q : W < 0
   ·exact q
   ·exact absurd (Int.mul_nonneg (Int.not_lt.1 q) (Int.le_of_lt hp')) (by omega)
 ·have : ((low (sz r) * (2^n + 1) : Nat) : Int) ≤ ((2 * (W.natAbs * 2^n) : Nat) : Int) := by
   rw [Int.natCast_mul, Int.natCast_add, Int.natCast_mul 2]
   exact c1
  omega
 ·have : ((2 * (W.natAbs * 2^n) : Nat) : Int) ≤ ((high (sz r) * (2^n - 1) : Nat) : Int) := by
   rw [Int.natCast_mul 2, Int.natCast_mul (high _), Int.natCast_sub hp]
   exact c2
  omega
theorem not_sure {x y : Nat} {i : Int} {r : Nat} (h : AcceptR x y i r false) : r = 0 := by
 rcases h with ⟨_, h, _⟩ | ⟨_, u, d, _, ⟨_, h, _⟩ | ⟨_, _, h⟩⟩
 ·exact h
 ·exact h
 ·cases h
end Go.Proofs.YtelfmddcjlocpaaDoor.AccRL
end
section
namespace Go.Proofs.YtelfmddcjlocpaaDoor.Again
open Go.RowKit Go.Proofs.YtelfmddcjlocpaaDoorW.PrintWords Go.Proofs.YtelfmddcjlocpaaDoorW.PrintMore Go.Proofs.YtelfmddcjlocpaaDoor.Num Go.Proofs.YtelfmddcjlocpaaDoor.Ref Go.Proofs.YtelfmddcjlocpaaDoor.FW Go.Proofs.YtelfmddcjlocpaaDoor.Eft Go.Proofs.YtelfmddcjlocpaaDoor.EftLaw Fl Ieee
def Al (x y : Nat) : Prop := x = y ∨ (INF < sz x ∧ INF < sz y)
theorem Al.refl (x : Nat) : Al x x := Or.inl rfl
theorem nan_l {op : BinOp} {x y : Nat} (hop : op = .add ∨ op = .sub ∨ op = .mul) (h : INF < sz x) : floatBits op .f64 x y = none := by
 obtain ⟨s, f, e⟩ := read_nan h
 rcases hop with rfl | rfl | rfl
 ·show double.add x y = none
  unfold Format.add; rw [e]; cases double.read y <;> rfl
 ·show double.sub x y = none
  unfold Format.sub; rw [e]; cases double.read y <;> rfl
 ·show double.mul x y = none
  unfold Format.mul; rw [e]; cases double.read y <;> rfl
theorem nan_r {op : BinOp} {x y : Nat} (hop : op = .add ∨ op = .sub ∨ op = .mul) (h : INF < sz y) : floatBits op .f64 x y = none := by
 obtain ⟨s, f, e⟩ := read_nan h
 rcases hop with rfl | rfl | rfl
 ·show double.add x y = none
  unfold Format.add; rw [e]; cases double.read x <;> rfl
 ·show double.sub x y = none
  unfold Format.sub; rw [e]; cases double.read x <;> rfl
 ·show double.mul x y = none
  unfold Format.mul; rw [e]; cases double.read x <;> rfl
theorem nan_sz {r : Nat} (h : 9218868437227405312 < r % 9223372036854775808) : INF < sz r := h
theorem fop_al {op : BinOp} {x y x' y' r r' : Nat} (hop : op = .add ∨ op = .sub ∨ op = .mul) (hx : Al x x') (hy : Al y y') (h : FOp op x y r) (h' : FOp op x' y' r') : Al r r' := by
 by_cases hn : INF < sz x ∨ INF < sz y
 ·have hn' : INF < sz x' ∨ INF < sz y' := by
   rcases hn with hn | hn
   ·rcases hx with rfl | hx
    ·exact Or.inl hn
    ·exact Or.inl hx.2
   ·rcases hy with rfl | hy
    ·exact Or.inr hn
    ·exact Or.inr hy.2
  right
  refine ⟨nan_sz (h.nan ?_), nan_sz (h'.nan ?_)⟩
  ·rcases hn with hn | hn
   ·exact nan_l hop hn
   ·exact nan_r hop hn
  ·rcases hn' with hn | hn
   ·exact nan_l hop hn
   ·exact nan_r hop hn
 ·obtain rfl : x = x' := by
   rcases hx with hx | hx
   ·exact hx
   ·exact absurd (Or.inl hx.1) hn
  obtain rfl : y = y' := by
   rcases hy with hy | hy
   ·exact hy
   ·exact absurd (Or.inr hy.1) hn
  rcases hb : floatBits op .f64 x y with _ | v
  ·exact Or.inr ⟨nan_sz (h.nan hb), nan_sz (h'.nan hb)⟩
  ·left; rw [h.val v hb, h'.val v hb]
end Go.Proofs.YtelfmddcjlocpaaDoor.Again
end
