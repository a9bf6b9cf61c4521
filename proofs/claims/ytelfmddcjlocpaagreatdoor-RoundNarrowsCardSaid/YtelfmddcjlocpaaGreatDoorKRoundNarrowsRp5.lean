/- The order of dyadics as the order of their values; Decide; calls on given numbers. Plain Lean over the printed functions. Conditions: numbers in form. What the printed functions of a format answer: take, finite, parts, classes, midpoints, cells, neighbours, ranks. Plain Lean over the printed functions. Conditions: words below 2^64. -/
import Derived.Test.YtelfmddcjlocpaaGreatDoorKRoundNarrowsRp3
import Derived.Test.YtelfmddcjlocpaaGreatDoorKRoundNarrowsPRefx0
import Derived.Test.YtelfmddcjlocpaaGreatDoorKRoundNarrowsPxL0
import Derived.Test.YtelfmddcjlocpaaGreatDoorKRoundNarrowsPxL1
section
namespace Go.Proofs.YtelfmddcjlocpaaGreatDoor.Rp4
open Go.RowKit Go.Proofs.YtelfmddcjlocpaaGreatDoorW.PrintWords Go.Proofs.YtelfmddcjlocpaaGreatDoorW.PrintMore Go.Proofs.YtelfmddcjlocpaaGreatDoor.Num Go.Proofs.YtelfmddcjlocpaaGreatDoor.PLib Go.Proofs.YtelfmddcjlocpaaGreatDoor.Ref Go.Proofs.YtelfmddcjlocpaaGreatDoor.GTh Go.Proofs.YtelfmddcjlocpaaGreatDoor.Given Go.Proofs.YtelfmddcjlocpaaGreatDoor.Rp1 Go.Proofs.YtelfmddcjlocpaaGreatDoor.Rp2 Go.Proofs.YtelfmddcjlocpaaGreatDoor.Rp3 Go.Proofs.YtelfmddcjlocpaaGreatDoor.BinLaw Go.Proofs.YtelfmddcjlocpaaGreatDoor.Fm8 Go.Proofs.YtelfmddcjlocpaaGreatDoor.Rnd
def vs (neg : Bool) (m : Nat) (x E : Int) : Int := if neg then -((m * 2^(x - E).toNat : Nat) : Int) else ((m * 2^(x - E).toNat : Nat) : Int)
theorem szc_vs {m m' : Nat} {x x' E : Int} (h : E ≤ x) (h' : E ≤ x') : szc m x m' x' = cmI (m * 2^(x - E).toNat) (m' * 2^(x' - E).toNat) := by
 unfold szc
 obtain ⟨d, hd⟩ : ∃ d : Nat, d = (min x x' - E).toNat := ⟨_, rfl⟩
 have e1 : (x - E).toNat = (x - min x x').toNat + d := by omega
 have e2 : (x' - E).toNat = (x' - min x x').toNat + d := by omega
 rw [e1, e2, Nat.pow_add, Nat.pow_add, ← Nat.mul_assoc, ← Nat.mul_assoc]
 generalize m * 2^(x - min x x').toNat = a
 generalize m' * 2^(x' - min x x').toNat = b
 have p := Nat.two_pow_pos d
 have i1 : a * 2^d < b * 2^d ↔ a < b := ⟨fun h => Nat.lt_of_mul_lt_mul_right h, fun h => Nat.mul_lt_mul_of_pos_right h p⟩
 have i2 : b * 2^d < a * 2^d ↔ b < a := ⟨fun h => Nat.lt_of_mul_lt_mul_right h, fun h => Nat.mul_lt_mul_of_pos_right h p⟩
 unfold cmI
 simp only [i1, i2]
def pv (F : Fmt) (g : Nat) (V : Int) : Nat := if V = 0 then 0 else pat F (decide (V < 0)) (rsz F g V.natAbs)
theorem rnd_pv (F : Fmt) {neg : Bool} {m : Nat} {x E : Int} (h : Dk neg m x) : rnd F neg m x E = pv F (F.low - E).toNat (vs neg m x E) := by
 unfold rnd pv vs
 have p1 := Nat.two_pow_pos (x - E).toNat
 by_cases c : m = 0
 ·obtain ⟨rfl, _⟩ := h.zero c
  rw [if_pos c, c]; simp
 ·have z1 : m * 2^(x - E).toNat ≠ 0 := Nat.mul_ne_zero c (by omega)
  generalize m * 2^(x - E).toNat = a at *
  rw [if_neg c]
  cases neg
  ·simp only [Bool.false_eq_true, if_false]
   rw [if_neg (show ¬ ((a : Nat) : Int) = 0 by omega), decide_eq_false (show ¬ ((a : Nat) : Int) < 0 by omega), Int.natAbs_natCast]
  ·simp only [if_true]
   rw [if_neg (show ¬ -((a : Nat) : Int) = 0 by omega), decide_eq_true (show -((a : Nat) : Int) < 0 by omega), Int.natAbs_neg, Int.natAbs_natCast]
end Go.Proofs.YtelfmddcjlocpaaGreatDoor.Rp4
end
section
namespace Go.Proofs.YtelfmddcjlocpaaGreatDoor.Rp5
open Go.RowKit Go.Proofs.YtelfmddcjlocpaaGreatDoorW.PrintWords Go.Proofs.YtelfmddcjlocpaaGreatDoorW.PrintMore Go.Proofs.YtelfmddcjlocpaaGreatDoor.Num Go.Proofs.YtelfmddcjlocpaaGreatDoor.PLib Go.Proofs.YtelfmddcjlocpaaGreatDoor.Ref Go.Proofs.YtelfmddcjlocpaaGreatDoor.GTh Go.Proofs.YtelfmddcjlocpaaGreatDoor.Given Go.Proofs.YtelfmddcjlocpaaGreatDoor.Rp1 Go.Proofs.YtelfmddcjlocpaaGreatDoor.Rp2 Go.Proofs.YtelfmddcjlocpaaGreatDoor.Rp3 Go.Proofs.YtelfmddcjlocpaaGreatDoor.Rp4 Go.Proofs.YtelfmddcjlocpaaGreatDoor.BinLaw Go.Proofs.YtelfmddcjlocpaaGreatDoor.Fm8 Go.Proofs.YtelfmddcjlocpaaGreatDoor.Rnd
abbrev tk (F : Fmt) (neg : Bool) (s : Nat) (e : Int) : Int × Int × Int × Int × Bool × Int × Int := (F.wd, F.man, F.low, F.qt, neg, s, e)
theorem sign_f {f : Int} {F : Fmt} (h : Fm f F) : binary_shape_sign.f (F.wd : Nat) (F.man : Nat) F.low (F.qt : Nat) = some ((F.sg : Nat) : Int) := by
 rcases h with ⟨_, rfl⟩ | ⟨_, rfl⟩ <;> decide +kernel
theorem hidden_f {f : Int} {F : Fmt} (h : Fm f F) : binary_shape_hidden.f (F.wd : Nat) (F.man : Nat) F.low (F.qt : Nat) = some ((hdF F : Nat) : Int) := by
 rcases h with ⟨_, rfl⟩ | ⟨_, rfl⟩ <;> decide +kernel
theorem binf_f {f : Int} {F : Fmt} (h : Fm f F) : binary_shape_inf.f (F.wd : Nat) (F.man : Nat) F.low (F.qt : Nat) = some ((F.inf : Nat) : Int) := by
 rcases h with ⟨_, rfl⟩ | ⟨_, rfl⟩ <;> decide +kernel
theorem take_j {f : Int} {F : Fmt} (h : Fm f F) (k b : Nat) : binary_take.f k f (b : Int) = binary_take.j0 k (b : Int) (if F.wd = 32 then ((shr .u64 (b : Int) 32) != 0) else false) (F.wd : Nat) (F.man : Nat) F.low (F.qt : Nat) := by
 rcases h with ⟨rfl, rfl⟩ | ⟨rfl, rfl⟩ <;> rfl
theorem high_bits {f : Int} {F : Fmt} (h : Fm f F) (b : Nat) (hb : b < 18446744073709551616) : (if F.wd = 32 then ((shr .u64 (b : Int) 32) != 0) else false) = decide (2 * F.sg ≤ b) := by
 rcases h with ⟨rfl, rfl⟩ | ⟨rfl, rfl⟩
 ·have e : shr .u64 (b : Int) 32 = ((b / 4294967296 : Nat) : Int) := by
   have h2 := shr_small (k := .u64) (x := (b : Int)) (y := 32) rfl (by decide)
   rw [← h2]; rfl
  show ((shr .u64 (b : Int) 32) != 0) = decide (2 * 2147483648 ≤ b)
  rw [e]
  by_cases c : 4294967296 ≤ b
  ·rw [decide_eq_true c]; simp; omega
  ·rw [decide_eq_false c]; simp; omega
 ·show false = decide (2 * 9223372036854775808 ≤ b)
  rw [decide_eq_false (by omega)]
theorem take_ok {f : Int} {F : Fmt} (h : Fm f F) (b : Nat) (hb : b < 2 * F.sg) : Ev (fun k => binary_take.f k f (b : Int)) (tk F (decide (F.sg ≤ b)) (b % F.sg) 0) := by
 have hz := h.sz
 refine Ev.congr (fun k => take_j h k b) ?_
 rw [high_bits h b (by omega), decide_eq_false (by omega)]
 refine Ev.step (f := fun _ => some (tk F (decide (F.sg ≤ b)) (b % F.sg) 0)) (fun k => ?_) (Ev.now _)
 simp only [binary_take.j0, sign_f h, Option.bind_some]
 rw [if_neg (by decide), and_sg (fm_isF h) hb, andNot_sg (fm_isF h) hb]
theorem finite_ok {f : Int} {F : Fmt} (h : Fm f F) (b : Nat) (hb : b < 2 * F.sg) (hi : b % F.sg < F.inf) : Ev (fun k => binary_finite.f k f (b : Int)) (tk F (decide (F.sg ≤ b)) (b % F.sg) 0) := by
 unfold binary_finite.f
 refine Ev.bind (take_ok h b hb) ?_
 simp only [tk, binf_f h, Option.bind_some, if_true]
 refine Ev.step (f := fun _ => some (tk F (decide (F.sg ≤ b)) (b % F.sg) 0)) (fun k => ?_) (Ev.now _)
 simp only [binary_finite.j0]
 exact (if_neg (show ¬ decide (((b % F.sg : Nat) : Int) ≥ ((F.inf : Nat) : Int)) = true from fun c => by have := of_decide_eq_true c; omega))
theorem parts_f {f : Int} {F : Fmt} (h : Fm f F) (s : Nat) (hs : s < F.sg) : binary_shape_parts.f (F.wd : Nat) (F.man : Nat) F.low (F.qt : Nat) (s : Int) = some (((mgF F s : Nat) : Int), xpF F s) := by
 have hz := h.sz
 have hh := (fm_hd h)
 have hl : -1074 ≤ F.low ∧ F.low ≤ -149 := by rcases h with ⟨_, rfl⟩ | ⟨_, rfl⟩ <;> exact ⟨by decide, by decide⟩
 have hq : s / hdF F ≤ 2048 := by
  have : s / hdF F < 2048 := by
   rw [Nat.div_lt_iff_lt_mul hh.1]
   rcases h with ⟨_, rfl⟩ | ⟨_, rfl⟩
   ·have : s < 2147483648 := hs
    show s < 2048 * 8388608; omega
   ·have : s < 9223372036854775808 := hs
    show s < 2048 * 4503599627370496; omega
  omega
 have hr : s % hdF F < hdF F := Nat.mod_lt _ hh.1
 unfold binary_shape_parts.f mgF xpF
 simp only [hidden_f h, Option.bind_some, ← Int.ofNat_tdiv, ← Int.ofNat_tmod]
 generalize s / hdF F = q at hq ⊢
 generalize s % hdF F = r at hr ⊢
 generalize hdF F = d at hh hr ⊢
 rw [if_neg (by omega), if_neg (by omega), wu64 (by omega) (by omega)]
 by_cases c : q = 0
 ·rw [if_pos (by omega), if_pos c, if_pos c]
 ·rw [if_neg (by omega), if_neg c, if_neg c, wu64 (by omega) (by omega), w64 (x := ((q : Nat) : Int)) (by omega) (by omega), w64 (x := F.low + _) (by omega) (by omega), w64 (by omega) (by omega)]
  rfl
theorem pat_mod (F : Fmt) (neg : Bool) {s : Nat} (hs : s < F.sg) : pat F neg s % F.sg = s := by
 unfold pat
 cases neg
 ·exact Nat.mod_eq_of_lt hs
 ·rw [if_pos rfl, Nat.add_mod_left, Nat.mod_eq_of_lt hs]
theorem pat_ge (F : Fmt) (neg : Bool) {s : Nat} (hs : s < F.sg) : decide (F.sg ≤ pat F neg s) = neg := by
 unfold pat
 cases neg
 ·rw [if_neg (by decide)]; exact decide_eq_false (by omega)
 ·rw [if_pos rfl]; exact decide_eq_true (by omega)
theorem pat_lt (F : Fmt) (neg : Bool) {s : Nat} (hs : s < F.sg) : pat F neg s < 2 * F.sg := by
 unfold pat
 cases neg
 ·rw [if_neg (by decide)]; omega
 ·rw [if_pos rfl]; omega
theorem pat_of {F : Fmt} {b : Nat} (hb : b < 2 * F.sg) (h0 : 0 < F.sg) : b = pat F (decide (F.sg ≤ b)) (b % F.sg) ∧ b % F.sg < F.sg := by
 have hm := Nat.mod_lt b h0
 refine ⟨?_, hm⟩
 unfold pat
 by_cases c : F.sg ≤ b
 ·rw [decide_eq_true c, if_pos rfl, Nat.mod_eq_sub_mod c, Nat.mod_eq_of_lt (by omega)]; omega
 ·rw [decide_eq_false c, if_neg (by decide), Nat.mod_eq_of_lt (by omega)]
theorem take_pat {f : Int} {F : Fmt} (h : Fm f F) (neg : Bool) {s : Nat} (hs : s < F.sg) : Ev (fun k => binary_take.f k f ((pat F neg s : Nat) : Int)) (tk F neg s 0) := by
 have := take_ok h _ (pat_lt F neg hs)
 rwa [pat_ge F neg hs, pat_mod F neg hs] at this
theorem finite_pat {f : Int} {F : Fmt} (h : Fm f F) (neg : Bool) {s : Nat} (hs : s < F.inf) : Ev (fun k => binary_finite.f k f ((pat F neg s : Nat) : Int)) (tk F neg s 0) := by
 have hs2 : s < F.sg := by have := h.sz; omega
 have := finite_ok h _ (pat_lt F neg hs2) (by rw [pat_mod F neg hs2]; exact hs)
 rwa [pat_ge F neg hs2, pat_mod F neg hs2] at this
def cl (F : Fmt) (s : Nat) : Int := if s = 0 then 0 else if s < hdF F then 1 else if s < F.inf then 2 else if s = F.inf then 3 else 4
theorem cl_fin {f : Int} {F : Fmt} (h : Fm f F) (s : Nat) : cl F s ≤ 2 ↔ s < F.inf := by
 have := fm_hd h
 unfold cl
 split
 ·omega
 ·split
  ·omega
  ·split
   ·omega
   ·split <;> omega
theorem cl_zero (F : Fmt) (s : Nat) : cl F s = 0 ↔ s = 0 := by
 unfold cl
 split
 ·omega
 ·split
  ·omega
  ·split
   ·omega
   ·split <;> omega
theorem class_f {f : Int} {F : Fmt} (h : Fm f F) (s : Nat) : binary_shape_class.f (F.wd : Nat) (F.man : Nat) F.low (F.qt : Nat) (s : Int) = some (cl F s) := by
 unfold binary_shape_class.f cl
 rw [hidden_f h, binf_f h]
 simp only [Option.bind_some]
 by_cases c0 : s = 0
 ·rw [if_pos (by omega), if_pos c0]
 ·rw [if_neg (by omega), if_neg c0]
  by_cases c1 : s < hdF F
  ·rw [if_pos (by omega), if_pos c1]
  ·rw [if_neg (by omega), if_neg c1]
   by_cases c2 : s < F.inf
   ·rw [if_pos (by omega), if_pos c2]
   ·rw [if_neg (by omega), if_neg c2]
    by_cases c3 : s = F.inf
    ·rw [if_pos (by omega), if_pos c3]
    ·rw [if_neg (by omega), if_neg c3]
theorem classOf_pat {f : Int} {F : Fmt} (h : Fm f F) (neg : Bool) {s : Nat} (hs : s < F.sg) : Ev (fun k => binary_ClassOf.f k f ((pat F neg s : Nat) : Int)) (cl F s, 0) := by
 unfold binary_ClassOf.f
 refine Ev.bind (take_pat h neg hs) (Ev.congr (fun k => if_pos rfl) ?_)
 simp only
 rw [class_f h]
 exact Ev.now _
theorem mg_lt {f : Int} {F : Fmt} (h : Fm f F) (s : Nat) : mgF F s < 9007199254740992 := by
 obtain ⟨h0, -, h1, -⟩ := fm_hd h
 have hm := Nat.mod_lt s h0
 unfold mgF
 split <;> omega
theorem dF_le {f : Int} {F : Fmt} (h : Fm f F) {s : Nat} (hs : s < F.sg) : dF F s ≤ 2048 := by
 unfold dF
 have : s / hdF F < 2048 := by
  rw [Nat.div_lt_iff_lt_mul (fm_hd h).1]
  rcases h with ⟨_, rfl⟩ | ⟨_, rfl⟩
  ·have : s < 2147483648 := hs
   show s < 2048 * 8388608; omega
  ·have : s < 9223372036854775808 := hs
   show s < 2048 * 4503599627370496; omega
 omega
end Go.Proofs.YtelfmddcjlocpaaGreatDoor.Rp5
end
