/- What the printed functions of a format answer: take, finite, parts, classes, midpoints, cells, neighbours, ranks. Plain Lean over the printed functions. Conditions: words below 2^64. Sums, differences, twins and scaled numbers of dyadics: their values. Plain Lean over the printed functions. Conditions: values of at most 500,000 bits above the lowest unit. Rounding of quotients and of roots to the sizes of a format, and what a sticky bit tells of them. Plain Lean; no program in sight. No condition. -/
import Derived.Test.YtelfmddcjlocpaaGreatDoorKRoundCellsRp4
import Derived.Test.YtelfmddcjlocpaaGreatDoorKRoundCellsPxL1
import Derived.Test.YtelfmddcjlocpaaGreatDoorKRoundCellsPxL2
import Derived.Test.YtelfmddcjlocpaaGreatDoorKRoundCellsRnd
section
namespace Go.Proofs.YtelfmddcjlocpaaGreatDoor.Rp5
open Go.RowKit Go.Proofs.YtelfmddcjlocpaaGreatDoorW.PrintWords Go.Proofs.YtelfmddcjlocpaaGreatDoorW.PrintMore Go.Proofs.YtelfmddcjlocpaaGreatDoor.Num Go.Proofs.YtelfmddcjlocpaaGreatDoor.PLib Go.Proofs.YtelfmddcjlocpaaGreatDoor.Ref Go.Proofs.YtelfmddcjlocpaaGreatDoor.GTh Go.Proofs.YtelfmddcjlocpaaGreatDoor.Given Go.Proofs.YtelfmddcjlocpaaGreatDoor.Rp1 Go.Proofs.YtelfmddcjlocpaaGreatDoor.Rp2 Go.Proofs.YtelfmddcjlocpaaGreatDoor.Rp3 Go.Proofs.YtelfmddcjlocpaaGreatDoor.Rp4 Go.Proofs.YtelfmddcjlocpaaGreatDoor.BinLaw Go.Proofs.YtelfmddcjlocpaaGreatDoor.Fm8 Go.Proofs.YtelfmddcjlocpaaGreatDoor.Rnd
abbrev tk (F : Fmt) (neg : Bool) (s : Nat) (e : Int) : Int × Int × Int × Int × Bool × Int × Int := (F.wd, F.man, F.low, F.qt, neg, s, e)
theorem sign_f {f : Int} {F : Fmt} (h : Fm f F) : binary_shape_sign.f (F.wd : Nat) (F.man : Nat) F.low (F.qt : Nat) = some ((F.sg : Nat) : Int) := by
 rcases h with ⟨_, rfl⟩ | ⟨_, rfl⟩ <;> decide +kernel
theorem hidden_f {f : Int} {F : Fmt} (h : Fm f F) : binary_shape_hidden.f (F.wd : Nat) (F.man : Nat) F.low (F.qt : Nat) = some ((hdF F : Nat) : Int) := by
 rcases h with ⟨_, rfl⟩ | ⟨_, rfl⟩ <;> decide +kernel
theorem binf_f {f : Int} {F : Fmt} (h : Fm f F) : binary_shape_inf.f (F.wd : Nat) (F.man : Nat) F.low (F.qt : Nat) = some ((F.inf : Nat) : Int) := by
 rcases h with ⟨_, rfl⟩ | ⟨_, rfl⟩ <;> decide +kernel
theorem take_j {f : Int} {F : Fmt} (h : Fm f F) (k b : Nat) : binary_take.f k f (b : Int) = binary_take.j0 k (b : Int) (if F.wd = 32 then ((shr .u64 (b : Int) 32) != 0) else false) (F.wd : Nat) (F.man : Nat) F.low (F.qt : Nat) := by
 rcases h with ⟨rfl, rfl⟩ | ⟨rfl, rfl⟩ <;> rfl
theorem high_bits {f : Int} {F : Fmt} (h : Fm f F) (b : Nat) (hb : b < 18446744073709551616) : (if F.wd = 32 then ((shr .u64 (b : Int) 32) != 0) else false) = decide (2 * F.sg ≤ b) := by
 rcases h with ⟨rfl, rfl⟩ | ⟨rfl, rfl⟩
 ·have e : shr .u64 (b : Int) 32 = ((b / 4294967296 : Nat) : Int) := by
   have h2 := shr_small (k := .u64) (x := (b : Int)) (y := 32) rfl (by decide)
   rw [← h2]; rfl
  show ((shr .u64 (b : Int) 32) != 0) = decide (2 * 2147483648 ≤ b)
  rw [e]
  by_cases c : 4294967296 ≤ b
  ·rw [decide_eq_true c]; simp; omega
  ·rw [decide_eq_false c]; simp; omega
 ·show false = decide (2 * 9223372036854775808 ≤ b)
  rw [decide_eq_false (by omega)]
theorem take_ok {f : Int} {F : Fmt} (h : Fm f F) (b : Nat) (hb : b < 2 * F.sg) : Ev (fun k => binary_take.f k f (b : Int)) (tk F (decide (F.sg ≤ b)) (b % F.sg) 0) := by
 have hz := h.sz
 refine Ev.congr (fun k => take_j h k b) ?_
 rw [high_bits h b (by omega), decide_eq_false (by omega)]
 refine Ev.step (f := fun _ => some (tk F (decide (F.sg ≤ b)) (b % F.sg) 0)) (fun k => ?_) (Ev.now _)
 simp only [binary_take.j0, sign_f h, Option.bind_some]
 rw [if_neg (by decide), and_sg (fm_isF h) hb, andNot_sg (fm_isF h) hb]
theorem take_bad {f : Int} {F : Fmt} (h : Fm f F) (b : Nat) (hb : b < 18446744073709551616) (h2 : 2 * F.sg ≤ b) : Ev (fun k => binary_take.f k f (b : Int)) (tk F false 0 2) := by
 refine Ev.congr (fun k => take_j h k b) ?_
 rw [high_bits h b hb, decide_eq_true h2]
 exact Ev.step (f := fun _ => some (tk F false 0 2)) (fun k => by rw [binary_take.j0, if_pos rfl]; rfl) (Ev.now _)
theorem finite_ok {f : Int} {F : Fmt} (h : Fm f F) (b : Nat) (hb : b < 2 * F.sg) (hi : b % F.sg < F.inf) : Ev (fun k => binary_finite.f k f (b : Int)) (tk F (decide (F.sg ≤ b)) (b % F.sg) 0) := by
 unfold binary_finite.f
 refine Ev.bind (take_ok h b hb) ?_
 simp only [tk, binf_f h, Option.bind_some, if_true]
 refine Ev.step (f := fun _ => some (tk F (decide (F.sg ≤ b)) (b % F.sg) 0)) (fun k => ?_) (Ev.now _)
 simp only [binary_finite.j0]
 exact (if_neg (show ¬ decide (((b % F.sg : Nat) : Int) ≥ ((F.inf : Nat) : Int)) = true from fun c => by have := of_decide_eq_true c; omega))
theorem parts_f {f : Int} {F : Fmt} (h : Fm f F) (s : Nat) (hs : s < F.sg) : binary_shape_parts.f (F.wd : Nat) (F.man : Nat) F.low (F.qt : Nat) (s : Int) = some (((mgF F s : Nat) : Int), xpF F s) := by
 have hz := h.sz
 have hh := (fm_hd h)
 have hl : -1074 ≤ F.low ∧ F.low ≤ -149 := by rcases h with ⟨_, rfl⟩ | ⟨_, rfl⟩ <;> exact ⟨by decide, by decide⟩
 have hq : s / hdF F ≤ 2048 := by
  have : s / hdF F < 2048 := by
   rw [Nat.div_lt_iff_lt_mul hh.1]
   rcases h with ⟨_, rfl⟩ | ⟨_, rfl⟩
   ·have : s < 2147483648 := hs
    show s < 2048 * 8388608; omega
   ·have : s < 9223372036854775808 := hs
    show s < 2048 * 4503599627370496; omega
  omega
 have hr : s % hdF F < hdF F := Nat.mod_lt _ hh.1
 unfold binary_shape_parts.f mgF xpF
 simp only [hidden_f h, Option.bind_some, ← Int.ofNat_tdiv, ← Int.ofNat_tmod]
 generalize s / hdF F = q at hq ⊢
 generalize s % hdF F = r at hr ⊢
 generalize hdF F = d at hh hr ⊢
 rw [if_neg (by omega), if_neg (by omega), wu64 (by omega) (by omega)]
 by_cases c : q = 0
 ·rw [if_pos (by omega), if_pos c, if_pos c]
 ·rw [if_neg (by omega), if_neg c, if_neg c, wu64 (by omega) (by omega), w64 (x := ((q : Nat) : Int)) (by omega) (by omega), w64 (x := F.low + _) (by omega) (by omega), w64 (by omega) (by omega)]
  rfl
theorem pat_mod (F : Fmt) (neg : Bool) {s : Nat} (hs : s < F.sg) : pat F neg s % F.sg = s := by
 unfold pat
 cases neg
 ·exact Nat.mod_eq_of_lt hs
 ·rw [if_pos rfl, Nat.add_mod_left, Nat.mod_eq_of_lt hs]
theorem pat_ge (F : Fmt) (neg : Bool) {s : Nat} (hs : s < F.sg) : decide (F.sg ≤ pat F neg s) = neg := by
 unfold pat
 cases neg
 ·rw [if_neg (by decide)]; exact decide_eq_false (by omega)
 ·rw [if_pos rfl]; exact decide_eq_true (by omega)
theorem pat_lt (F : Fmt) (neg : Bool) {s : Nat} (hs : s < F.sg) : pat F neg s < 2 * F.sg := by
 unfold pat
 cases neg
 ·rw [if_neg (by decide)]; omega
 ·rw [if_pos rfl]; omega
theorem pat_of {F : Fmt} {b : Nat} (hb : b < 2 * F.sg) (h0 : 0 < F.sg) : b = pat F (decide (F.sg ≤ b)) (b % F.sg) ∧ b % F.sg < F.sg := by
 have hm := Nat.mod_lt b h0
 refine ⟨?_, hm⟩
 unfold pat
 by_cases c : F.sg ≤ b
 ·rw [decide_eq_true c, if_pos rfl, Nat.mod_eq_sub_mod c, Nat.mod_eq_of_lt (by omega)]; omega
 ·rw [decide_eq_false c, if_neg (by decide), Nat.mod_eq_of_lt (by omega)]
theorem take_pat {f : Int} {F : Fmt} (h : Fm f F) (neg : Bool) {s : Nat} (hs : s < F.sg) : Ev (fun k => binary_take.f k f ((pat F neg s : Nat) : Int)) (tk F neg s 0) := by
 have := take_ok h _ (pat_lt F neg hs)
 rwa [pat_ge F neg hs, pat_mod F neg hs] at this
theorem finite_pat {f : Int} {F : Fmt} (h : Fm f F) (neg : Bool) {s : Nat} (hs : s < F.inf) : Ev (fun k => binary_finite.f k f ((pat F neg s : Nat) : Int)) (tk F neg s 0) := by
 have hs2 : s < F.sg := by have := h.sz; omega
 have := finite_ok h _ (pat_lt F neg hs2) (by rw [pat_mod F neg hs2]; exact hs)
 rwa [pat_ge F neg hs2, pat_mod F neg hs2] at this
def cl (F : Fmt) (s : Nat) : Int := if s = 0 then 0 else if s < hdF F then 1 else if s < F.inf then 2 else if s = F.inf then 3 else 4
theorem cl_fin {f : Int} {F : Fmt} (h : Fm f F) (s : Nat) : cl F s ≤ 2 ↔ s < F.inf := by
 have := fm_hd h
 unfold cl
 split
 ·omega
 ·split
  ·omega
  ·split
   ·omega
   ·split <;> omega
theorem cl_zero (F : Fmt) (s : Nat) : cl F s = 0 ↔ s = 0 := by
 unfold cl
 split
 ·omega
 ·split
  ·omega
  ·split
   ·omega
   ·split <;> omega
theorem class_f {f : Int} {F : Fmt} (h : Fm f F) (s : Nat) : binary_shape_class.f (F.wd : Nat) (F.man : Nat) F.low (F.qt : Nat) (s : Int) = some (cl F s) := by
 unfold binary_shape_class.f cl
 rw [hidden_f h, binf_f h]
 simp only [Option.bind_some]
 by_cases c0 : s = 0
 ·rw [if_pos (by omega), if_pos c0]
 ·rw [if_neg (by omega), if_neg c0]
  by_cases c1 : s < hdF F
  ·rw [if_pos (by omega), if_pos c1]
  ·rw [if_neg (by omega), if_neg c1]
   by_cases c2 : s < F.inf
   ·rw [if_pos (by omega), if_pos c2]
   ·rw [if_neg (by omega), if_neg c2]
    by_cases c3 : s = F.inf
    ·rw [if_pos (by omega), if_pos c3]
    ·rw [if_neg (by omega), if_neg c3]
theorem classOf_pat {f : Int} {F : Fmt} (h : Fm f F) (neg : Bool) {s : Nat} (hs : s < F.sg) : Ev (fun k => binary_ClassOf.f k f ((pat F neg s : Nat) : Int)) (cl F s, 0) := by
 unfold binary_ClassOf.f
 refine Ev.bind (take_pat h neg hs) (Ev.congr (fun k => if_pos rfl) ?_)
 simp only
 rw [class_f h]
 exact Ev.now _
theorem make_odd {neg : Bool} {m : Nat} {x : Int} (hl : nl m ≤ 8192) (ho : m % 2 = 1) (hx : -1048576 ≤ x) (hx2 : x ≤ 1048576) : Ev (fun k => dyadic_Make.f k neg (lb m) x) (neg, lb m, x, 0) := by
 have m0 : m ≠ 0 := by omega
 have ht : tz m = 0 := tz_eq ⟨m / 2, by rw [Nat.pow_zero]; omega⟩
 have p := nl_pos m0
 unfold dyadic_Make.f
 rw [numForm_lb hl (fun e => absurd e m0), trail_f hl m0, ht]
 simp only [Option.bind_some, if_true]
 have w : wrap64 (x + ((0 : Nat) : Int)) = x := by rw [w64 (by omega) (by omega)]; omega
 rw [w, lb_len]
 refine Ev.congr (fun k => if_neg (by omega)) (Ev.congr (fun k => if_neg (by omega)) (Ev.congr (fun k => if_neg (by omega)) (Ev.congr (fun k => if_neg (by omega)) (Ev.succ ?_))))
 rw [decide_eq_false (by omega)]
 simp only [dyadic_Make.j0]
 have e := shr_f (m := m) (n := 0) hl (by decide)
 rw [Nat.pow_zero, Nat.div_one] at e
 rw [e, w]
 exact Ev.now _
def mdm (F : Fmt) (s : Nat) : Nat := 2 * mgF F s + 1
def mdx (F : Fmt) (s : Nat) : Int := xpF F s - 1
theorem mg_lt {f : Int} {F : Fmt} (h : Fm f F) (s : Nat) : mgF F s < 9007199254740992 := by
 obtain ⟨h0, -, h1, -⟩ := fm_hd h
 have hm := Nat.mod_lt s h0
 unfold mgF
 split <;> omega
theorem dF_le {f : Int} {F : Fmt} (h : Fm f F) {s : Nat} (hs : s < F.sg) : dF F s ≤ 2048 := by
 unfold dF
 have : s / hdF F < 2048 := by
  rw [Nat.div_lt_iff_lt_mul (fm_hd h).1]
  rcases h with ⟨_, rfl⟩ | ⟨_, rfl⟩
  ·have : s < 2147483648 := hs
   show s < 2048 * 8388608; omega
  ·have : s < 9223372036854775808 := hs
   show s < 2048 * 4503599627370496; omega
 omega
theorem mdx_rng {f : Int} {F : Fmt} (h : Fm f F) {s : Nat} (hs : s < F.sg) : F.low - 1 ≤ mdx F s ∧ -1075 ≤ mdx F s ∧ mdx F s ≤ 2048 := by
 have := dF_le h hs
 have := fm_man h
 unfold mdx
 rw [xp_d]
 omega
theorem mdm_lim {f : Int} {F : Fmt} (h : Fm f F) (s : Nat) : nl (mdm F s) ≤ 8192 := by
 have := mg_lt h s
 have : nl (mdm F s) = 1 := nl_one (by unfold mdm; omega) (by unfold mdm; omega)
 omega
theorem mid_dk {f : Int} {F : Fmt} (h : Fm f F) (neg : Bool) {s : Nat} (hs : s < F.sg) : Dk neg (mdm F s) (mdx F s) := by
 have := mdx_rng h hs
 exact { lim := mdm_lim h s, zero := fun e => by unfold mdm at e; omega, odd := fun _ => by unfold mdm; omega, low := by omega, high := by omega }
theorem mid_pat {f : Int} {F : Fmt} (h : Fm f F) (neg : Bool) {s : Nat} (hs : s < F.inf) : Ev (fun k => binary_Mid.f k f ((pat F neg s : Nat) : Int)) (neg, lb (mdm F s), mdx F s, 0) := by
 have hs2 : s < F.sg := by have := h.sz; omega
 have hr := mdx_rng h hs2
 have hmg := mg_lt h s
 unfold binary_Mid.f
 refine Ev.bind (finite_pat h neg hs) (Ev.congr (fun k => if_pos rfl) ?_)
 simp only
 rw [parts_f h s hs2]
 simp only [Option.bind_some]
 have w1 : IntKind.u64.wrap (IntKind.u64.wrap (2 * ((mgF F s : Nat) : Int)) + 1) = ((mdm F s : Nat) : Int) := by
  rw [wu64 (x := 2 * _) (by omega) (by omega), wu64 (by omega) (by omega)]; unfold mdm; omega
 have w2 : wrap64 (xpF F s - 1) = mdx F s := by unfold mdx at *; rw [w64 (by omega) (by omega)]
 rw [w1, w2]
 refine Ev.bind (a := (neg, lb (mdm F s), mdx F s, 0)) ?_ (Ev.now _)
 unfold binary_number.f
 have hm : mdm F s < 18446744073709551616 := by unfold mdm; omega
 have mk := fun b => make_odd (neg := b) (mdm_lim h s) (show mdm F s % 2 = 1 by unfold mdm; omega) (x := mdx F s) (by omega) (by omega)
 rw [word_f _ hm]
 simp only [Option.bind_some]
 cases neg
 ·refine Ev.congr (fun k => if_neg (by decide)) (Ev.bind (mk false) (Ev.now _))
 ·have e : (((mdm F s : Nat) : Int) != 0) = true := by unfold mdm; simp; omega
  rw [e]
  refine Ev.congr (fun k => if_pos rfl) (Ev.bind (mk true) (Ev.now _))
theorem mid_vs {f : Int} {F : Fmt} (h : Fm f F) (neg : Bool) (s : Nat) (E : Int) (hE : E ≤ F.low - 1) : vs neg (mdm F s) (mdx F s) E = (if neg then -(((nF F s + nF F (s + 1)) * 2^(F.low - 1 - E).toNat : Nat) : Int) else (((nF F s + nF F (s + 1)) * 2^(F.low - 1 - E).toNat : Nat) : Int)) := by
 have e : mdm F s * 2^(mdx F s - E).toNat = (nF F s + nF F (s + 1)) * 2^(F.low - 1 - E).toNat := by
  have e1 : (mdx F s - E).toNat = dF F s + (F.low - 1 - E).toNat := by unfold mdx; rw [xp_d]; omega
  rw [e1, Nat.pow_add, ← Nat.mul_assoc, nF_next h]
  congr 1
  unfold mdm nF
  rw [Nat.add_mul, Nat.one_mul, Nat.mul_assoc, Nat.two_mul]; omega
 unfold vs
 rw [e]
theorem and_b (b : Nat) (hb : b < 18446744073709551616) : (Go.bits .and .u64 (b : Int) 1 == 0) = decide (b % 2 = 0) := by
 rw [and_one b hb]
 by_cases c : b % 2 = 0
 ·rw [c]; rfl
 ·have : b % 2 = 1 := by omega
  rw [this]; rfl
theorem pat_even {f : Int} {F : Fmt} (h : Fm f F) (neg : Bool) (s : Nat) : pat F neg s % 2 = s % 2 := by
 have : F.sg % 2 = 0 := by rcases h with ⟨_, rfl⟩ | ⟨_, rfl⟩ <;> decide
 unfold pat
 cases neg
 ·rfl
 ·rw [if_pos rfl]; omega
theorem cell_pat {f : Int} {F : Fmt} (h : Fm f F) (neg : Bool) {s : Nat} (h0 : s ≠ 0) (hs : s < F.inf) :
  Ev (fun k => round_Cell.f k f ((pat F neg s : Nat) : Int)) (neg, lb (mdm F (if neg then s else s - 1)), mdx F (if neg then s else s - 1), neg, lb (mdm F (if neg then s - 1 else s)), mdx F (if neg then s - 1 else s), decide (s % 2 = 0), 0) := by
 have hz := h.sz
 have hs2 : s < F.sg := by omega
 unfold round_Cell.f
 have hb : pat F neg s < 18446744073709551616 := by have := pat_lt F neg hs2; omega
 have e1 : IntKind.u64.wrap (((pat F neg s : Nat) : Int) - 1) = ((pat F neg (s - 1) : Nat) : Int) := by
  have : pat F neg (s - 1) + 1 = pat F neg s := by
   unfold pat
   cases neg
   ·rw [if_neg (by decide), if_neg (by decide)]; omega
   ·rw [if_pos rfl, if_pos rfl]; omega
  rw [wu64 (by omega) (by omega)]; omega
 have hj : Ev (fun k => round_Cell.j0 k f ((pat F neg s : Nat) : Int) false) (neg, lb (mdm F (if neg then s else s - 1)), mdx F (if neg then s else s - 1), neg, lb (mdm F (if neg then s - 1 else s)), mdx F (if neg then s - 1 else s), decide (s % 2 = 0), 0) := by
  refine Ev.succ ?_
  simp only [round_Cell.j0, e1]
  refine Ev.congr (fun k => if_neg (by decide)) (Ev.bind (mid_pat h neg hs) (Ev.bind (mid_pat h neg (show s - 1 < F.inf by omega)) ?_))
  rw [and_b _ hb, pat_even h]
  cases neg
  ·exact Ev.congr (fun k => if_neg (show ¬ false = true by decide)) (Ev.now _)
  ·exact Ev.congr (fun k => if_pos rfl) (Ev.now _)
 refine Ev.bind (classOf_pat h neg hs2) (Ev.congr (fun k => if_pos rfl) ?_)
 have c0 : cl F s ≠ 0 := fun e => h0 ((cl_zero F s).1 e)
 have c2 := (cl_fin h s).2 hs
 refine Ev.congr (fun k => if_neg c0) (Ev.congr (fun k => if_neg (show ¬ cl F s = 3 by omega)) ?_)
 have e4 : (cl F s == 4) = false := by simp; omega
 simp only [e4]
 exact hj
end Go.Proofs.YtelfmddcjlocpaaGreatDoor.Rp5
end
section
set_option linter.unusedVariables false
namespace Go.Proofs.YtelfmddcjlocpaaGreatDoor.Rp7
open Go.RowKit Go.Proofs.YtelfmddcjlocpaaGreatDoorW.PrintWords Go.Proofs.YtelfmddcjlocpaaGreatDoorW.PrintMore Go.Proofs.YtelfmddcjlocpaaGreatDoor.Num Go.Proofs.YtelfmddcjlocpaaGreatDoor.PLib Go.Proofs.YtelfmddcjlocpaaGreatDoor.Ref Go.Proofs.YtelfmddcjlocpaaGreatDoor.GTh Go.Proofs.YtelfmddcjlocpaaGreatDoor.Given Go.Proofs.YtelfmddcjlocpaaGreatDoor.Rp1 Go.Proofs.YtelfmddcjlocpaaGreatDoor.Rp2 Go.Proofs.YtelfmddcjlocpaaGreatDoor.Rp3 Go.Proofs.YtelfmddcjlocpaaGreatDoor.Rp4 Go.Proofs.YtelfmddcjlocpaaGreatDoor.Rp5 Go.Proofs.YtelfmddcjlocpaaGreatDoor.BinLaw Go.Proofs.YtelfmddcjlocpaaGreatDoor.Fm8 Go.Proofs.YtelfmddcjlocpaaGreatDoor.Rnd
def sv (neg : Bool) (m : Nat) : Int := if neg then -(m : Int) else (m : Int)
theorem vs_sv (neg : Bool) (m : Nat) (x E : Int) : vs neg m x E = sv neg (m * 2^(x - E).toNat) := rfl
theorem sv_mul (neg : Bool) (m p : Nat) : sv neg (m * p) = sv neg m * (p : Int) := by
 cases neg
 ·show ((m * p : Nat) : Int) = (m : Int) * p; omega
 ·show -((m * p : Nat) : Int) = -(m : Int) * p; rw [Int.neg_mul]; omega
theorem sv_abs (neg : Bool) (m : Nat) : (sv neg m).natAbs = m := by
 cases neg
 ·show (m : Int).natAbs = m; omega
 ·show (-(m : Int)).natAbs = m; omega
structure Dy (E : Int) (neg : Bool) (m : Nat) (x V : Int) : Prop where mk :: (dk : Dk neg m x) (le : E ≤ x) (va : vs neg m x E = V)
theorem Dy.abs {E : Int} {neg : Bool} {m : Nat} {x V : Int} (h : Dy E neg m x V) : V.natAbs = m * 2^(x - E).toNat := by rw [← h.va, vs_sv, sv_abs]
theorem Dy.zero {E : Int} {neg : Bool} {m : Nat} {x V : Int} (h : Dy E neg m x V) : m = 0 ↔ V = 0 := by
 have e := h.abs
 have hp := Nat.two_pow_pos (x - E).toNat
 constructor
 ·intro c; rw [c, Nat.zero_mul] at e; omega
 ·intro c
  rw [c] at e
  rcases Nat.mul_eq_zero.1 e.symm with c1 | c1
  ·exact c1
  ·omega
theorem Dy.bl {E : Int} {neg : Bool} {m : Nat} {x V : Int} (h : Dy E neg m x V) (h0 : m ≠ 0) : bl m + (x - E).toNat = bl V.natAbs := by rw [h.abs, bl_mul _ _ h0]
theorem Dy.neg {E : Int} {neg : Bool} {m : Nat} {x V : Int} (h : Dy E neg m x V) : neg = decide (V < 0) := by
 have e := h.va
 have z := h.zero
 have a := h.abs
 rw [vs_sv] at e
 cases neg
 ·rw [decide_eq_false]
  show ¬ V < 0
  have : sv false (m * 2^(x - E).toNat) = ((m * 2^(x - E).toNat : Nat) : Int) := rfl
  omega
 ·rw [decide_eq_true]
  have m0 : m ≠ 0 := fun c => absurd (h.dk.zero c).1 (by decide)
  have : sv true (m * 2^(x - E).toNat) = -((m * 2^(x - E).toNat : Nat) : Int) := rfl
  have v0 : V ≠ 0 := fun c => m0 (z.2 c)
  omega
theorem Dy.uniq {E : Int} {neg neg' : Bool} {m m' : Nat} {x x' V : Int} (h : Dy E neg m x V) (h' : Dy E neg' m' x' V) : neg = neg' ∧ m = m' ∧ x = x' := by
 refine ⟨h.neg.trans h'.neg.symm, ?_⟩
 by_cases c : m = 0
 ·have c' := h'.zero.2 (h.zero.1 c)
  rw [c, c', (h.dk.zero c).2, (h'.dk.zero c').2]
  exact ⟨rfl, rfl⟩
 have c' : m' ≠ 0 := fun e => c (h.zero.2 (h'.zero.1 e))
 have o := h.dk.odd c
 have o' := h'.dk.odd c'
 have e : 2^(x - E).toNat * m = 2^(x' - E).toNat * m' := by rw [Nat.mul_comm, ← h.abs, h'.abs, Nat.mul_comm]
 have t : (x - E).toNat = (x' - E).toNat := tz_uniq (x := 2^(x - E).toNat * m) ⟨m / 2, by congr 1; omega⟩ ⟨m' / 2, by rw [e]; congr 1; omega⟩
 rw [t] at e
 have := h.le
 have := h'.le
 exact ⟨Nat.eq_of_mul_eq_mul_left (Nat.two_pow_pos _) e, by omega⟩
theorem bl_add {a b k : Nat} (ha : bl a ≤ k) (hb : bl b ≤ k) : bl (a + b) ≤ k + 1 := by
 have q1 := Nat.lt_of_lt_of_le (bl_lt a) (Nat.pow_le_pow_right (by decide) ha)
 have q2 := Nat.lt_of_lt_of_le (bl_lt b) (Nat.pow_le_pow_right (by decide) hb)
 exact bl_le_of_lt (by rw [Nat.pow_succ]; omega)
theorem mn_min (a b : Int) : mn a b = min a b := by unfold mn; split <;> omega
theorem bl_nF {f : Int} {F : Fmt} (h : Fm f F) {s : Nat} (hs : s < F.sg) : bl (nF F s) ≤ 2101 := by
 have := dF_le h hs
 by_cases c : mgF F s = 0
 ·unfold nF; rw [c, Nat.zero_mul]; decide
 ·unfold nF
  rw [bl_mul _ _ c]
  have : bl (mgF F s) ≤ 53 := bl_le_of_lt (mg_lt h s)
  omega
end Go.Proofs.YtelfmddcjlocpaaGreatDoor.Rp7
end
section
set_option linter.unusedVariables false
namespace Go.Proofs.YtelfmddcjlocpaaGreatDoor.Sq
open Go.Proofs.YtelfmddcjlocpaaGreatDoor.BinLaw Go.Proofs.YtelfmddcjlocpaaGreatDoor.Ref Go.Proofs.YtelfmddcjlocpaaGreatDoor.Fm8 Go.Proofs.YtelfmddcjlocpaaGreatDoor.Rnd
structure Nq (F : Fmt) (n d s : Nat) : Prop where mk ::
 (le : s ≤ F.inf)
 (up : s < F.inf → 2 * n < md F 0 s * d ∨ (2 * n = md F 0 s * d ∧ s % 2 = 0))
 (dn : ∀ t, s = t + 1 → md F 0 t * d < 2 * n ∨ (md F 0 t * d = 2 * n ∧ s % 2 = 0))
theorem md_g (F : Fmt) (g s : Nat) : md F g s = md F 0 s * 2^g := by unfold md; rw [Nat.pow_zero, Nat.mul_one]
theorem nst_of_nq {F : Fmt} {g V s : Nat} (h : Nq F V (2^g) s) : Nst F g V s :=
 ⟨h.le, fun c => by rw [md_g]; exact h.up c, fun t e => by rw [md_g]; exact h.dn t e⟩
theorem md_odd {f : Int} {F : Fmt} (h : Fm f F) (s : Nat) : md F 0 s = (2 * mgF F s + 1) * 2^(dF F s) := by
 unfold md
 rw [nF_next h, Nat.pow_zero, Nat.mul_one]
 unfold nF
 rw [Nat.add_mul, Nat.one_mul, Nat.mul_assoc 2]
 omega
end Go.Proofs.YtelfmddcjlocpaaGreatDoor.Sq
end
