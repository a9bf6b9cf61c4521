/- What the printed functions of a format answer: take, finite, parts, classes, midpoints, cells, neighbours, ranks. Plain Lean over the printed functions. Conditions: words below 2^64. Sums, differences, twins and scaled numbers of dyadics: their values. Plain Lean over the printed functions. Conditions: values of at most 500,000 bits above the lowest unit. Rounding of quotients and of roots to the sizes of a format, and what a sticky bit tells of them. Plain Lean; no program in sight. No condition. -/
import Derived.Test.YtelfmddcjlocpaaGreatDoorKRoundRootedRp4
import Derived.Test.YtelfmddcjlocpaaGreatDoorKRoundRootedPxL1
import Derived.Test.YtelfmddcjlocpaaGreatDoorKRoundRootedPRefx0
import Derived.Test.YtelfmddcjlocpaaGreatDoorKRoundRootedRp1
section
namespace Go.Proofs.YtelfmddcjlocpaaGreatDoor.Rp5
open Go.RowKit Go.Proofs.YtelfmddcjlocpaaGreatDoorW.PrintWords Go.Proofs.YtelfmddcjlocpaaGreatDoorW.PrintMore Go.Proofs.YtelfmddcjlocpaaGreatDoor.Num Go.Proofs.YtelfmddcjlocpaaGreatDoor.PLib Go.Proofs.YtelfmddcjlocpaaGreatDoor.Ref Go.Proofs.YtelfmddcjlocpaaGreatDoor.GTh Go.Proofs.YtelfmddcjlocpaaGreatDoor.Given Go.Proofs.YtelfmddcjlocpaaGreatDoor.Rp1 Go.Proofs.YtelfmddcjlocpaaGreatDoor.Rp2 Go.Proofs.YtelfmddcjlocpaaGreatDoor.Rp3 Go.Proofs.YtelfmddcjlocpaaGreatDoor.Rp4 Go.Proofs.YtelfmddcjlocpaaGreatDoor.BinLaw Go.Proofs.YtelfmddcjlocpaaGreatDoor.Fm8 Go.Proofs.YtelfmddcjlocpaaGreatDoor.Rnd
abbrev tk (F : Fmt) (neg : Bool) (s : Nat) (e : Int) : Int × Int × Int × Int × Bool × Int × Int := (F.wd, F.man, F.low, F.qt, neg, s, e)
theorem sign_f {f : Int} {F : Fmt} (h : Fm f F) : binary_shape_sign.f (F.wd : Nat) (F.man : Nat) F.low (F.qt : Nat) = some ((F.sg : Nat) : Int) := by
 rcases h with ⟨_, rfl⟩ | ⟨_, rfl⟩ <;> decide +kernel
theorem hidden_f {f : Int} {F : Fmt} (h : Fm f F) : binary_shape_hidden.f (F.wd : Nat) (F.man : Nat) F.low (F.qt : Nat) = some ((hdF F : Nat) : Int) := by
 rcases h with ⟨_, rfl⟩ | ⟨_, rfl⟩ <;> decide +kernel
theorem binf_f {f : Int} {F : Fmt} (h : Fm f F) : binary_shape_inf.f (F.wd : Nat) (F.man : Nat) F.low (F.qt : Nat) = some ((F.inf : Nat) : Int) := by
 rcases h with ⟨_, rfl⟩ | ⟨_, rfl⟩ <;> decide +kernel
theorem take_j {f : Int} {F : Fmt} (h : Fm f F) (k b : Nat) : binary_take.f k f (b : Int) = binary_take.j0 k (b : Int) (if F.wd = 32 then ((shr .u64 (b : Int) 32) != 0) else false) (F.wd : Nat) (F.man : Nat) F.low (F.qt : Nat) := by
 rcases h with ⟨rfl, rfl⟩ | ⟨rfl, rfl⟩ <;> rfl
theorem high_bits {f : Int} {F : Fmt} (h : Fm f F) (b : Nat) (hb : b < 18446744073709551616) : (if F.wd = 32 then ((shr .u64 (b : Int) 32) != 0) else false) = decide (2 * F.sg ≤ b) := by
 rcases h with ⟨rfl, rfl⟩ | ⟨rfl, rfl⟩
 ·have e : shr .u64 (b : Int) 32 = ((b / 4294967296 : Nat) : Int) := by
   have h2 := shr_small (k := .u64) (x := (b : Int)) (y := 32) rfl (by decide)
   rw [← h2]; rfl
  show ((shr .u64 (b : Int) 32) != 0) = decide (2 * 2147483648 ≤ b)
  rw [e]
  by_cases c : 4294967296 ≤ b
  ·rw [decide_eq_true c]; simp; omega
  ·rw [decide_eq_false c]; simp; omega
 ·show false = decide (2 * 9223372036854775808 ≤ b)
  rw [decide_eq_false (by omega)]
theorem take_ok {f : Int} {F : Fmt} (h : Fm f F) (b : Nat) (hb : b < 2 * F.sg) : Ev (fun k => binary_take.f k f (b : Int)) (tk F (decide (F.sg ≤ b)) (b % F.sg) 0) := by
 have hz := h.sz
 refine Ev.congr (fun k => take_j h k b) ?_
 rw [high_bits h b (by omega), decide_eq_false (by omega)]
 refine Ev.step (f := fun _ => some (tk F (decide (F.sg ≤ b)) (b % F.sg) 0)) (fun k => ?_) (Ev.now _)
 simp only [binary_take.j0, sign_f h, Option.bind_some]
 rw [if_neg (by decide), and_sg (fm_isF h) hb, andNot_sg (fm_isF h) hb]
theorem finite_ok {f : Int} {F : Fmt} (h : Fm f F) (b : Nat) (hb : b < 2 * F.sg) (hi : b % F.sg < F.inf) : Ev (fun k => binary_finite.f k f (b : Int)) (tk F (decide (F.sg ≤ b)) (b % F.sg) 0) := by
 unfold binary_finite.f
 refine Ev.bind (take_ok h b hb) ?_
 simp only [tk, binf_f h, Option.bind_some, if_true]
 refine Ev.step (f := fun _ => some (tk F (decide (F.sg ≤ b)) (b % F.sg) 0)) (fun k => ?_) (Ev.now _)
 simp only [binary_finite.j0]
 exact (if_neg (show ¬ decide (((b % F.sg : Nat) : Int) ≥ ((F.inf : Nat) : Int)) = true from fun c => by have := of_decide_eq_true c; omega))
theorem parts_f {f : Int} {F : Fmt} (h : Fm f F) (s : Nat) (hs : s < F.sg) : binary_shape_parts.f (F.wd : Nat) (F.man : Nat) F.low (F.qt : Nat) (s : Int) = some (((mgF F s : Nat) : Int), xpF F s) := by
 have hz := h.sz
 have hh := (fm_hd h)
 have hl : -1074 ≤ F.low ∧ F.low ≤ -149 := by rcases h with ⟨_, rfl⟩ | ⟨_, rfl⟩ <;> exact ⟨by decide, by decide⟩
 have hq : s / hdF F ≤ 2048 := by
  have : s / hdF F < 2048 := by
   rw [Nat.div_lt_iff_lt_mul hh.1]
   rcases h with ⟨_, rfl⟩ | ⟨_, rfl⟩
   ·have : s < 2147483648 := hs
    show s < 2048 * 8388608; omega
   ·have : s < 9223372036854775808 := hs
    show s < 2048 * 4503599627370496; omega
  omega
 have hr : s % hdF F < hdF F := Nat.mod_lt _ hh.1
 unfold binary_shape_parts.f mgF xpF
 simp only [hidden_f h, Option.bind_some, ← Int.ofNat_tdiv, ← Int.ofNat_tmod]
 generalize s / hdF F = q at hq ⊢
 generalize s % hdF F = r at hr ⊢
 generalize hdF F = d at hh hr ⊢
 rw [if_neg (by omega), if_neg (by omega), wu64 (by omega) (by omega)]
 by_cases c : q = 0
 ·rw [if_pos (by omega), if_pos c, if_pos c]
 ·rw [if_neg (by omega), if_neg c, if_neg c, wu64 (by omega) (by omega), w64 (x := ((q : Nat) : Int)) (by omega) (by omega), w64 (x := F.low + _) (by omega) (by omega), w64 (by omega) (by omega)]
  rfl
theorem pat_mod (F : Fmt) (neg : Bool) {s : Nat} (hs : s < F.sg) : pat F neg s % F.sg = s := by
 unfold pat
 cases neg
 ·exact Nat.mod_eq_of_lt hs
 ·rw [if_pos rfl, Nat.add_mod_left, Nat.mod_eq_of_lt hs]
theorem pat_ge (F : Fmt) (neg : Bool) {s : Nat} (hs : s < F.sg) : decide (F.sg ≤ pat F neg s) = neg := by
 unfold pat
 cases neg
 ·rw [if_neg (by decide)]; exact decide_eq_false (by omega)
 ·rw [if_pos rfl]; exact decide_eq_true (by omega)
theorem pat_lt (F : Fmt) (neg : Bool) {s : Nat} (hs : s < F.sg) : pat F neg s < 2 * F.sg := by
 unfold pat
 cases neg
 ·rw [if_neg (by decide)]; omega
 ·rw [if_pos rfl]; omega
theorem take_pat {f : Int} {F : Fmt} (h : Fm f F) (neg : Bool) {s : Nat} (hs : s < F.sg) : Ev (fun k => binary_take.f k f ((pat F neg s : Nat) : Int)) (tk F neg s 0) := by
 have := take_ok h _ (pat_lt F neg hs)
 rwa [pat_ge F neg hs, pat_mod F neg hs] at this
theorem finite_pat {f : Int} {F : Fmt} (h : Fm f F) (neg : Bool) {s : Nat} (hs : s < F.inf) : Ev (fun k => binary_finite.f k f ((pat F neg s : Nat) : Int)) (tk F neg s 0) := by
 have hs2 : s < F.sg := by have := h.sz; omega
 have := finite_ok h _ (pat_lt F neg hs2) (by rw [pat_mod F neg hs2]; exact hs)
 rwa [pat_ge F neg hs2, pat_mod F neg hs2] at this
def cl (F : Fmt) (s : Nat) : Int := if s = 0 then 0 else if s < hdF F then 1 else if s < F.inf then 2 else if s = F.inf then 3 else 4
theorem cl_fin {f : Int} {F : Fmt} (h : Fm f F) (s : Nat) : cl F s ≤ 2 ↔ s < F.inf := by
 have := fm_hd h
 unfold cl
 split
 ·omega
 ·split
  ·omega
  ·split
   ·omega
   ·split <;> omega
theorem cl_zero (F : Fmt) (s : Nat) : cl F s = 0 ↔ s = 0 := by
 unfold cl
 split
 ·omega
 ·split
  ·omega
  ·split
   ·omega
   ·split <;> omega
theorem class_f {f : Int} {F : Fmt} (h : Fm f F) (s : Nat) : binary_shape_class.f (F.wd : Nat) (F.man : Nat) F.low (F.qt : Nat) (s : Int) = some (cl F s) := by
 unfold binary_shape_class.f cl
 rw [hidden_f h, binf_f h]
 simp only [Option.bind_some]
 by_cases c0 : s = 0
 ·rw [if_pos (by omega), if_pos c0]
 ·rw [if_neg (by omega), if_neg c0]
  by_cases c1 : s < hdF F
  ·rw [if_pos (by omega), if_pos c1]
  ·rw [if_neg (by omega), if_neg c1]
   by_cases c2 : s < F.inf
   ·rw [if_pos (by omega), if_pos c2]
   ·rw [if_neg (by omega), if_neg c2]
    by_cases c3 : s = F.inf
    ·rw [if_pos (by omega), if_pos c3]
    ·rw [if_neg (by omega), if_neg c3]
theorem classOf_pat {f : Int} {F : Fmt} (h : Fm f F) (neg : Bool) {s : Nat} (hs : s < F.sg) : Ev (fun k => binary_ClassOf.f k f ((pat F neg s : Nat) : Int)) (cl F s, 0) := by
 unfold binary_ClassOf.f
 refine Ev.bind (take_pat h neg hs) (Ev.congr (fun k => if_pos rfl) ?_)
 simp only
 rw [class_f h]
 exact Ev.now _
theorem make_odd {neg : Bool} {m : Nat} {x : Int} (hl : nl m ≤ 8192) (ho : m % 2 = 1) (hx : -1048576 ≤ x) (hx2 : x ≤ 1048576) : Ev (fun k => dyadic_Make.f k neg (lb m) x) (neg, lb m, x, 0) := by
 have m0 : m ≠ 0 := by omega
 have ht : tz m = 0 := tz_eq ⟨m / 2, by rw [Nat.pow_zero]; omega⟩
 have p := nl_pos m0
 unfold dyadic_Make.f
 rw [numForm_lb hl (fun e => absurd e m0), trail_f hl m0, ht]
 simp only [Option.bind_some, if_true]
 have w : wrap64 (x + ((0 : Nat) : Int)) = x := by rw [w64 (by omega) (by omega)]; omega
 rw [w, lb_len]
 refine Ev.congr (fun k => if_neg (by omega)) (Ev.congr (fun k => if_neg (by omega)) (Ev.congr (fun k => if_neg (by omega)) (Ev.congr (fun k => if_neg (by omega)) (Ev.succ ?_))))
 rw [decide_eq_false (by omega)]
 simp only [dyadic_Make.j0]
 have e := shr_f (m := m) (n := 0) hl (by decide)
 rw [Nat.pow_zero, Nat.div_one] at e
 rw [e, w]
 exact Ev.now _
def mdm (F : Fmt) (s : Nat) : Nat := 2 * mgF F s + 1
def mdx (F : Fmt) (s : Nat) : Int := xpF F s - 1
theorem mg_lt {f : Int} {F : Fmt} (h : Fm f F) (s : Nat) : mgF F s < 9007199254740992 := by
 obtain ⟨h0, -, h1, -⟩ := fm_hd h
 have hm := Nat.mod_lt s h0
 unfold mgF
 split <;> omega
theorem dF_le {f : Int} {F : Fmt} (h : Fm f F) {s : Nat} (hs : s < F.sg) : dF F s ≤ 2048 := by
 unfold dF
 have : s / hdF F < 2048 := by
  rw [Nat.div_lt_iff_lt_mul (fm_hd h).1]
  rcases h with ⟨_, rfl⟩ | ⟨_, rfl⟩
  ·have : s < 2147483648 := hs
   show s < 2048 * 8388608; omega
  ·have : s < 9223372036854775808 := hs
   show s < 2048 * 4503599627370496; omega
 omega
theorem mdx_rng {f : Int} {F : Fmt} (h : Fm f F) {s : Nat} (hs : s < F.sg) : F.low - 1 ≤ mdx F s ∧ -1075 ≤ mdx F s ∧ mdx F s ≤ 2048 := by
 have := dF_le h hs
 have := fm_man h
 unfold mdx
 rw [xp_d]
 omega
theorem mdm_lim {f : Int} {F : Fmt} (h : Fm f F) (s : Nat) : nl (mdm F s) ≤ 8192 := by
 have := mg_lt h s
 have : nl (mdm F s) = 1 := nl_one (by unfold mdm; omega) (by unfold mdm; omega)
 omega
theorem mid_dk {f : Int} {F : Fmt} (h : Fm f F) (neg : Bool) {s : Nat} (hs : s < F.sg) : Dk neg (mdm F s) (mdx F s) := by
 have := mdx_rng h hs
 exact { lim := mdm_lim h s, zero := fun e => by unfold mdm at e; omega, odd := fun _ => by unfold mdm; omega, low := by omega, high := by omega }
theorem mid_pat {f : Int} {F : Fmt} (h : Fm f F) (neg : Bool) {s : Nat} (hs : s < F.inf) : Ev (fun k => binary_Mid.f k f ((pat F neg s : Nat) : Int)) (neg, lb (mdm F s), mdx F s, 0) := by
 have hs2 : s < F.sg := by have := h.sz; omega
 have hr := mdx_rng h hs2
 have hmg := mg_lt h s
 unfold binary_Mid.f
 refine Ev.bind (finite_pat h neg hs) (Ev.congr (fun k => if_pos rfl) ?_)
 simp only
 rw [parts_f h s hs2]
 simp only [Option.bind_some]
 have w1 : IntKind.u64.wrap (IntKind.u64.wrap (2 * ((mgF F s : Nat) : Int)) + 1) = ((mdm F s : Nat) : Int) := by
  rw [wu64 (x := 2 * _) (by omega) (by omega), wu64 (by omega) (by omega)]; unfold mdm; omega
 have w2 : wrap64 (xpF F s - 1) = mdx F s := by unfold mdx at *; rw [w64 (by omega) (by omega)]
 rw [w1, w2]
 refine Ev.bind (a := (neg, lb (mdm F s), mdx F s, 0)) ?_ (Ev.now _)
 unfold binary_number.f
 have hm : mdm F s < 18446744073709551616 := by unfold mdm; omega
 have mk := fun b => make_odd (neg := b) (mdm_lim h s) (show mdm F s % 2 = 1 by unfold mdm; omega) (x := mdx F s) (by omega) (by omega)
 rw [word_f _ hm]
 simp only [Option.bind_some]
 cases neg
 ·refine Ev.congr (fun k => if_neg (by decide)) (Ev.bind (mk false) (Ev.now _))
 ·have e : (((mdm F s : Nat) : Int) != 0) = true := by unfold mdm; simp; omega
  rw [e]
  refine Ev.congr (fun k => if_pos rfl) (Ev.bind (mk true) (Ev.now _))
theorem mid_vs {f : Int} {F : Fmt} (h : Fm f F) (neg : Bool) (s : Nat) (E : Int) (hE : E ≤ F.low - 1) : vs neg (mdm F s) (mdx F s) E = (if neg then -(((nF F s + nF F (s + 1)) * 2^(F.low - 1 - E).toNat : Nat) : Int) else (((nF F s + nF F (s + 1)) * 2^(F.low - 1 - E).toNat : Nat) : Int)) := by
 have e : mdm F s * 2^(mdx F s - E).toNat = (nF F s + nF F (s + 1)) * 2^(F.low - 1 - E).toNat := by
  have e1 : (mdx F s - E).toNat = dF F s + (F.low - 1 - E).toNat := by unfold mdx; rw [xp_d]; omega
  rw [e1, Nat.pow_add, ← Nat.mul_assoc, nF_next h]
  congr 1
  unfold mdm nF
  rw [Nat.add_mul, Nat.one_mul, Nat.mul_assoc, Nat.two_mul]; omega
 unfold vs
 rw [e]
theorem and_b (b : Nat) (hb : b < 18446744073709551616) : (Go.bits .and .u64 (b : Int) 1 == 0) = decide (b % 2 = 0) := by
 rw [and_one b hb]
 by_cases c : b % 2 = 0
 ·rw [c]; rfl
 ·have : b % 2 = 1 := by omega
  rw [this]; rfl
theorem pat_even {f : Int} {F : Fmt} (h : Fm f F) (neg : Bool) (s : Nat) : pat F neg s % 2 = s % 2 := by
 have : F.sg % 2 = 0 := by rcases h with ⟨_, rfl⟩ | ⟨_, rfl⟩ <;> decide
 unfold pat
 cases neg
 ·rfl
 ·rw [if_pos rfl]; omega
theorem cell_pat {f : Int} {F : Fmt} (h : Fm f F) (neg : Bool) {s : Nat} (h0 : s ≠ 0) (hs : s < F.inf) :
  Ev (fun k => round_Cell.f k f ((pat F neg s : Nat) : Int)) (neg, lb (mdm F (if neg then s else s - 1)), mdx F (if neg then s else s - 1), neg, lb (mdm F (if neg then s - 1 else s)), mdx F (if neg then s - 1 else s), decide (s % 2 = 0), 0) := by
 have hz := h.sz
 have hs2 : s < F.sg := by omega
 unfold round_Cell.f
 have hb : pat F neg s < 18446744073709551616 := by have := pat_lt F neg hs2; omega
 have e1 : IntKind.u64.wrap (((pat F neg s : Nat) : Int) - 1) = ((pat F neg (s - 1) : Nat) : Int) := by
  have : pat F neg (s - 1) + 1 = pat F neg s := by
   unfold pat
   cases neg
   ·rw [if_neg (by decide), if_neg (by decide)]; omega
   ·rw [if_pos rfl, if_pos rfl]; omega
  rw [wu64 (by omega) (by omega)]; omega
 have hj : Ev (fun k => round_Cell.j0 k f ((pat F neg s : Nat) : Int) false) (neg, lb (mdm F (if neg then s else s - 1)), mdx F (if neg then s else s - 1), neg, lb (mdm F (if neg then s - 1 else s)), mdx F (if neg then s - 1 else s), decide (s % 2 = 0), 0) := by
  refine Ev.succ ?_
  simp only [round_Cell.j0, e1]
  refine Ev.congr (fun k => if_neg (by decide)) (Ev.bind (mid_pat h neg hs) (Ev.bind (mid_pat h neg (show s - 1 < F.inf by omega)) ?_))
  rw [and_b _ hb, pat_even h]
  cases neg
  ·exact Ev.congr (fun k => if_neg (show ¬ false = true by decide)) (Ev.now _)
  ·exact Ev.congr (fun k => if_pos rfl) (Ev.now _)
 refine Ev.bind (classOf_pat h neg hs2) (Ev.congr (fun k => if_pos rfl) ?_)
 have c0 : cl F s ≠ 0 := fun e => h0 ((cl_zero F s).1 e)
 have c2 := (cl_fin h s).2 hs
 refine Ev.congr (fun k => if_neg c0) (Ev.congr (fun k => if_neg (show ¬ cl F s = 3 by omega)) ?_)
 have e4 : (cl F s == 4) = false := by simp; omega
 simp only [e4]
 exact hj
theorem lawFin_pat {f : Int} {F : Fmt} (h : Fm f F) (neg : Bool) {s : Nat} (hs : s < F.sg) : gnomonlaw08_finite.f f ((pat F neg s : Nat) : Int) = some (decide (s < F.inf), decide (s = 0)) := by
 have hlt := pat_lt F neg hs
 have hm := pat_mod F neg hs
 generalize pat F neg s = b at *
 have ef : decide (cl F s ≤ 2) = decide (s < F.inf) := decide_eq_decide.2 (cl_fin h s)
 have ez : (cl F s == 0) = decide (s = 0) := by
  by_cases c : s = 0
  ·rw [decide_eq_true c, (cl_zero F s).2 c]; rfl
  ·have : cl F s ≠ 0 := fun e => c ((cl_zero F s).1 e)
   rw [decide_eq_false c]; simpa using this
 unfold gnomonlaw08_finite.f gnomonref07_DocClass.f gnomonref07_Check.f
 have e : Int.tdiv (b : Int) 2 = ((b / 2 : Nat) : Int) := (Int.ofNat_tdiv b 2).symm
 have key : gnomonref07_Of.f f = some (((F.sg : Nat) : Int), ((F.man : Nat) : Int), F.low, (if f = 32 then 104 else 971), ((F.inf : Nat) : Int), ((F.qt : Nat) : Int), true) := by rcases h with ⟨rfl, rfl⟩ | ⟨rfl, rfl⟩ <;> rfl
 have hz := h.sz
 have kc : ∀ g : Int, gnomonref07_Cut.f ((F.sg : Nat) : Int) ((F.man : Nat) : Int) F.low g ((F.inf : Nat) : Int) ((F.qt : Nat) : Int) (b : Int) = some (decide ((b : Int) ≥ ((F.sg : Nat) : Int)), (s : Int)) := by
  intro g
  unfold gnomonref07_Cut.f
  rw [if_neg (by omega)]
  have : Int.tmod (b : Int) ((F.sg : Nat) : Int) = ((b % F.sg : Nat) : Int) := (Int.ofNat_tmod b F.sg).symm
  rw [this, hm]
 have kl : ∀ g : Int, gnomonref07_ClassOf.f ((F.sg : Nat) : Int) ((F.man : Nat) : Int) F.low g ((F.inf : Nat) : Int) ((F.qt : Nat) : Int) (s : Int) = some (cl F s) := by
  intro g
  unfold gnomonref07_ClassOf.f cl
  have hd := fm_hd h
  have hml := fm_man h
  have w1 : wrap64 (((F.man : Nat) : Int) - 1) = ((F.man : Nat) : Int) - 1 := w64 (by omega) (by omega)
  have sh : shl .u64 1 (((F.man : Nat) : Int) - 1) = ((hdF F : Nat) : Int) := by
   have := shl_hd h (A := 1) (by decide)
   rw [Nat.one_mul] at this
   exact this
  rw [w1, sh]
  by_cases c0 : s = 0
  ·rw [if_pos (by omega), if_pos c0]
  ·rw [if_neg (by omega), if_neg c0, if_pos (by omega)]
   by_cases c1 : s < hdF F
   ·rw [if_pos (by omega), if_pos c1]
   ·rw [if_neg (by omega), if_neg c1]
    by_cases c2 : s < F.inf
    ·rw [if_pos (by omega), if_pos c2]
    ·rw [if_neg (by omega), if_neg c2]
     by_cases c3 : s = F.inf
     ·rw [if_pos (by omega), if_pos c3]
     ·rw [if_neg (by omega), if_neg c3]
 rw [key]
 simp only [Option.bind_some, if_true]
 rw [e, wu64 (by omega) (by omega), if_neg (by omega)]
 simp only [Option.bind_some, if_true]
 rw [kc]
 simp only [Option.bind_some]
 rw [kl]
 simp only [Option.bind_some, if_true]
 rw [ef, ez]
end Go.Proofs.YtelfmddcjlocpaaGreatDoor.Rp5
end
section
set_option linter.unusedVariables false
namespace Go.Proofs.YtelfmddcjlocpaaGreatDoor.Rp7
open Go.RowKit Go.Proofs.YtelfmddcjlocpaaGreatDoorW.PrintWords Go.Proofs.YtelfmddcjlocpaaGreatDoorW.PrintMore Go.Proofs.YtelfmddcjlocpaaGreatDoor.Num Go.Proofs.YtelfmddcjlocpaaGreatDoor.PLib Go.Proofs.YtelfmddcjlocpaaGreatDoor.Ref Go.Proofs.YtelfmddcjlocpaaGreatDoor.GTh Go.Proofs.YtelfmddcjlocpaaGreatDoor.Given Go.Proofs.YtelfmddcjlocpaaGreatDoor.Rp1 Go.Proofs.YtelfmddcjlocpaaGreatDoor.Rp2 Go.Proofs.YtelfmddcjlocpaaGreatDoor.Rp3 Go.Proofs.YtelfmddcjlocpaaGreatDoor.Rp4 Go.Proofs.YtelfmddcjlocpaaGreatDoor.Rp5 Go.Proofs.YtelfmddcjlocpaaGreatDoor.BinLaw Go.Proofs.YtelfmddcjlocpaaGreatDoor.Fm8 Go.Proofs.YtelfmddcjlocpaaGreatDoor.Rnd
theorem twin_f (neg : Bool) {m : Nat} (x : Int) (h : nl m ≤ 8192) : dyadic_twin.f neg (lb m) x = some (neg, lb m, x) := by
 unfold dyadic_twin.f slices_Clone_uint64_uint64.f
 rw [if_pos (by rw [lb_len]; omega)]
 rfl
theorem form_dk {neg : Bool} {m : Nat} {x : Int} (h : Dk neg m x) : Ev (fun k => dyadic_Form.f k neg (lb m) x) true := by
 have := form_ev neg (lb m) x
 rwa [dyB_lb h] at this
theorem mn_min (a b : Int) : mn a b = min a b := by unfold mn; split <;> omega
end Go.Proofs.YtelfmddcjlocpaaGreatDoor.Rp7
end
section
set_option linter.unusedVariables false
namespace Go.Proofs.YtelfmddcjlocpaaGreatDoor.Sq
open Go.Proofs.YtelfmddcjlocpaaGreatDoor.BinLaw Go.Proofs.YtelfmddcjlocpaaGreatDoor.Ref Go.Proofs.YtelfmddcjlocpaaGreatDoor.Fm8 Go.Proofs.YtelfmddcjlocpaaGreatDoor.Rnd
structure Nq (F : Fmt) (n d s : Nat) : Prop where mk ::
 (le : s ≤ F.inf)
 (up : s < F.inf → 2 * n < md F 0 s * d ∨ (2 * n = md F 0 s * d ∧ s % 2 = 0))
 (dn : ∀ t, s = t + 1 → md F 0 t * d < 2 * n ∨ (md F 0 t * d = 2 * n ∧ s % 2 = 0))
theorem md_g (F : Fmt) (g s : Nat) : md F g s = md F 0 s * 2^g := by unfold md; rw [Nat.pow_zero, Nat.mul_one]
theorem md_odd {f : Int} {F : Fmt} (h : Fm f F) (s : Nat) : md F 0 s = (2 * mgF F s + 1) * 2^(dF F s) := by
 unfold md
 rw [nF_next h, Nat.pow_zero, Nat.mul_one]
 unfold nF
 rw [Nat.add_mul, Nat.one_mul, Nat.mul_assoc 2]
 omega
theorem mg_lt2 {f : Int} {F : Fmt} (h : Fm f F) (s : Nat) : 2 * mgF F s + 1 < 2^(F.man + 1) := by
 obtain ⟨h0, -, -, -, -, hm, -, -, hm1⟩ := fm_hd h
 have e : 2^(F.man + 1) = 4 * hdF F := by
  rw [hm, show F.man + 1 = (F.man - 1) + 2 by omega, Nat.pow_add]
  omega
 have := Nat.mod_lt s h0
 unfold mgF
 split <;> omega
theorem md_or {f : Int} {F : Fmt} (h : Fm f F) (s g k : Nat) : (∃ c, md F 0 s * 2^g = 2^k * c) ∨ md F 0 s * 2^g < 2^(F.man + k) := by
 rw [md_odd h, Nat.mul_assoc, ← Nat.pow_add]
 by_cases c : k ≤ dF F s + g
 ·left
  refine ⟨(2 * mgF F s + 1) * 2^(dF F s + g - k), ?_⟩
  rw [Nat.mul_left_comm, ← Nat.pow_add]
  congr 2
  omega
 ·right
  have l := mg_lt2 h s
  have e : 2^(F.man + k) = 2^(F.man + 1) * 2^(k - 1) := by rw [← Nat.pow_add]; congr 1; omega
  rw [e]
  have p : 2^(dF F s + g) ≤ 2^(k - 1) := Nat.pow_le_pow_right (by decide) (by omega)
  exact Nat.lt_of_le_of_lt (Nat.mul_le_mul_left _ p) (Nat.mul_lt_mul_of_pos_right l (Nat.two_pow_pos _))
def stk (q r : Nat) : Nat := 2 * q + if r = 0 then 0 else 1
theorem le_even {q w c : Nat} (h : (2 * q + 1) * w ≤ w * 2 * c) (hw : 0 < w) : (2 * q + 2) * w ≤ w * 2 * c := by
 have e : w * 2 * c = (2 * c) * w := by rw [Nat.mul_assoc, Nat.mul_comm]
 rw [e] at h ⊢
 have := Nat.le_of_mul_le_mul_right h hw
 exact Nat.mul_le_mul_right _ (by omega)
theorem ge_even {q w c : Nat} (h : w * 2 * c ≤ (2 * q + 1) * w) (hw : 0 < w) : w * 2 * c ≤ 2 * q * w := by
 have e : w * 2 * c = (2 * c) * w := by rw [Nat.mul_assoc, Nat.mul_comm]
 rw [e] at h ⊢
 have := Nat.le_of_mul_le_mul_right h hw
 exact Nat.mul_le_mul_right _ (by omega)
theorem stk_up {f : Int} {F : Fmt} (h : Fm f F) {q K g s : Nat} (hq : 2^(F.man + 2) ≤ q) (c : 2 * ((2 * q + 1) * 2^K) ≤ md F 0 s * 2^g) : 2 * ((2 * q + 2) * 2^K) ≤ md F 0 s * 2^g := by
 have p := Nat.two_pow_pos K
 have e : ∀ x, 2 * (x * 2^K) = x * 2^(K + 1) := fun x => by rw [Nat.pow_succ]; rw [Nat.mul_left_comm, Nat.mul_comm 2]
 rw [e] at c ⊢
 rcases md_or h s g (K + 2) with ⟨d, hd⟩ | hd
 ·rw [hd, show K + 2 = K + 1 + 1 from rfl, Nat.pow_succ 2 (K + 1)] at c ⊢
  exact le_even c (Nat.two_pow_pos _)
 ·exfalso
  have e2 : 2^(F.man + (K + 2)) = 2^(F.man + 1) * 2^(K + 1) := by rw [← Nat.pow_add]; congr 1; omega
  have l : 2^(F.man + 1) * 2^(K + 1) ≤ (2 * q + 1) * 2^(K + 1) := Nat.mul_le_mul_right _ (by
   have : 2^(F.man + 2) = 2 * 2^(F.man + 1) := by rw [Nat.pow_succ, Nat.mul_comm]
   omega)
  omega
theorem stk_dn {f : Int} {F : Fmt} (h : Fm f F) {q K g s : Nat} (hq : 2^(F.man + 2) ≤ q) (c : md F 0 s * 2^g ≤ 2 * ((2 * q + 1) * 2^K)) : md F 0 s * 2^g ≤ 2 * (2 * q * 2^K) := by
 have p := Nat.two_pow_pos K
 have e : ∀ x, 2 * (x * 2^K) = x * 2^(K + 1) := fun x => by rw [Nat.pow_succ]; rw [Nat.mul_left_comm, Nat.mul_comm 2]
 rw [e] at c ⊢
 rcases md_or h s g (K + 2) with ⟨d, hd⟩ | hd
 ·rw [hd, show K + 2 = K + 1 + 1 from rfl, Nat.pow_succ 2 (K + 1)] at c ⊢
  exact ge_even c (Nat.two_pow_pos _)
 ·have e2 : 2^(F.man + (K + 2)) = 2^(F.man + 1) * 2^(K + 1) := by rw [← Nat.pow_add]; congr 1; omega
  have l : 2^(F.man + 1) * 2^(K + 1) ≤ 2 * q * 2^(K + 1) := Nat.mul_le_mul_right _ (by
   have : 2^(F.man + 2) = 2 * 2^(F.man + 1) := by rw [Nat.pow_succ, Nat.mul_comm]
   omega)
  omega
structure Nr (F : Fmt) (n d s : Nat) : Prop where mk ::
 (le : s ≤ F.inf)
 (up : s < F.inf → 4 * n < md F 0 s * md F 0 s * d ∨ (4 * n = md F 0 s * md F 0 s * d ∧ s % 2 = 0))
 (dn : ∀ t, s = t + 1 → md F 0 t * md F 0 t * d < 4 * n ∨ (md F 0 t * md F 0 t * d = 4 * n ∧ s % 2 = 0))
theorem sq_lt {a b : Nat} (h : a < b) : a * a < b * b := Nat.mul_self_lt_mul_self h
theorem sq_le {a b : Nat} (h : a ≤ b) : a * a ≤ b * b := Nat.mul_self_le_mul_self h
theorem nr_mono {f : Int} {F : Fmt} (h : Fm f F) {n d n' d' s s' : Nat} (hd : 0 < d) (hd' : 0 < d') (hV : n * d' ≤ n' * d) (a : Nr F n d s) (b : Nr F n' d' s') : s ≤ s' := by
 rcases Nat.lt_or_ge s' s with c | c
 ·exfalso
  obtain ⟨t, rfl⟩ : ∃ t, s = t + 1 := ⟨s - 1, by omega⟩
  have a1 := a.dn t rfl
  have b1 := b.up (by have := a.le; omega)
  have m1 := sq_le (md_le h (g := 0) (show s' ≤ t by omega))
  have l0 : s' < t → md F 0 s' * md F 0 s' < md F 0 t * md F 0 t := fun q => sq_lt (md_lt h (g := 0) q)
  generalize md F 0 s' * md F 0 s' = u at *
  generalize hv : md F 0 t * md F 0 t = v at *
  have x1 : v * d * d' ≤ 4 * n * d' := Nat.mul_le_mul_right _ (by omega)
  have x2 : 4 * n' * d ≤ u * d' * d := Nat.mul_le_mul_right _ (by omega)
  have x3 : 4 * (n * d') ≤ 4 * (n' * d) := Nat.mul_le_mul_left _ hV
  have e1 : 4 * n * d' = 4 * (n * d') := Nat.mul_assoc _ _ _
  have e2 : 4 * n' * d = 4 * (n' * d) := Nat.mul_assoc _ _ _
  have e3 : u * d' * d = u * d * d' := by rw [Nat.mul_right_comm]
  have m2 : u * d * d' ≤ v * d * d' := Nat.mul_le_mul_right _ (Nat.mul_le_mul_right _ m1)
  rcases Nat.lt_or_eq_of_le (show s' ≤ t by omega) with q | q
  ·have l2 : u * d * d' < v * d * d' := Nat.mul_lt_mul_of_pos_right (Nat.mul_lt_mul_of_pos_right (l0 q) hd) hd'
   omega
  ·rcases a1 with a1 | ⟨a1, a2⟩
   ·have y : v * d * d' < 4 * n * d' := Nat.mul_lt_mul_of_pos_right a1 hd'
    omega
   ·rcases b1 with b1 | ⟨b1, b2⟩
    ·have y : 4 * n' * d < u * d' * d := Nat.mul_lt_mul_of_pos_right b1 hd
     omega
    ·omega
 ·exact c
theorem nr_uniq {f : Int} {F : Fmt} (h : Fm f F) {n d s s' : Nat} (hd : 0 < d) (a : Nr F n d s) (b : Nr F n d s') : s = s' :=
 Nat.le_antisymm (nr_mono h hd hd (Nat.le_refl _) a b) (nr_mono h hd hd (Nat.le_refl _) b a)
theorem stk_root {f : Int} {F : Fmt} (h : Fm f F) {x q K g s : Nat} (hx : q * q ≤ x) (hx2 : x < (q + 1) * (q + 1)) (hq : 2^(F.man + 2) ≤ q) (a : Nst F g (stk q (x - q * q) * 2^K) s) : Nr F (x * (2^(K + 1) * 2^(K + 1))) (2^g * 2^g) s := by
 have pk := Nat.two_pow_pos K
 have ex : 4 * (x * (2^(K + 1) * 2^(K + 1))) = 4 * (4 * x) * (2^K * 2^K) := by
  have : 2^(K + 1) * 2^(K + 1) = 4 * (2^K * 2^K) := by rw [Nat.pow_succ, show (4 : Nat) = 2 * 2 from rfl]; ac_rfl
  rw [this]; ac_rfl
 have em : ∀ M : Nat, M * M * (2^g * 2^g) = (M * 2^g) * (M * 2^g) := fun M => by ac_rfl
 have es : ∀ y : Nat, (2 * (y * 2^K)) * (2 * (y * 2^K)) = 4 * (y * y) * (2^K * 2^K) := fun y => by
  have : (4 : Nat) = 2 * 2 := rfl
  rw [this]; ac_rfl
 have pp : 0 < 2^K * 2^K := Nat.mul_pos pk pk
 by_cases r0 : x - q * q = 0
 ·have e0 : stk q (x - q * q) = 2 * q := by unfold stk; rw [if_pos r0]; rfl
  rw [e0] at a
  have e1 : 4 * x = 2 * q * (2 * q) := by
   have : 2 * q * (2 * q) = 4 * (q * q) := by rw [show (4 : Nat) = 2 * 2 from rfl]; ac_rfl
   omega
  have e2 : 4 * (x * (2^(K + 1) * 2^(K + 1))) = (2 * (2 * q * 2^K)) * (2 * (2 * q * 2^K)) := by rw [ex, es, e1]
  refine ⟨a.le, fun c => ?_, fun t c => ?_⟩
  ·rw [e2, em]
   rcases a.up c with y | ⟨y, y2⟩
   ·rw [md_g] at y; exact .inl (sq_lt y)
   ·rw [md_g] at y; exact .inr ⟨by rw [y], y2⟩
  ·rw [e2, em]
   rcases a.dn t c with y | ⟨y, y2⟩
   ·rw [md_g] at y; exact .inl (sq_lt y)
   ·rw [md_g] at y; exact .inr ⟨by rw [y], y2⟩
 ·have e0 : stk q (x - q * q) = 2 * q + 1 := by unfold stk; rw [if_neg r0]
  rw [e0] at a
  have l1 : 4 * x < (2 * q + 2) * (2 * q + 2) := by
   have : (2 * q + 2) * (2 * q + 2) = 4 * ((q + 1) * (q + 1)) := by
    rw [show 2 * q + 2 = 2 * (q + 1) by omega, show (4 : Nat) = 2 * 2 from rfl]; ac_rfl
   omega
  have l2 : 2 * q * (2 * q) < 4 * x := by
   have : 2 * q * (2 * q) = 4 * (q * q) := by rw [show (4 : Nat) = 2 * 2 from rfl]; ac_rfl
   omega
  refine ⟨a.le, fun c => .inl ?_, fun t c => .inl ?_⟩
  ·have y : 2 * ((2 * q + 1) * 2^K) ≤ md F 0 s * 2^g := by rw [← md_g]; have := a.up c; omega
   have z := sq_le (stk_up h hq y)
   rw [ex, em]
   refine Nat.lt_of_lt_of_le ?_ z
   rw [es]
   exact Nat.mul_lt_mul_of_pos_right (by omega) pp
  ·have y : md F 0 t * 2^g ≤ 2 * ((2 * q + 1) * 2^K) := by rw [← md_g]; have := a.dn t c; omega
   have z := sq_le (stk_dn h hq y)
   rw [ex, em]
   refine Nat.lt_of_le_of_lt z ?_
   rw [es]
   exact Nat.mul_lt_mul_of_pos_right (by omega) pp
end Go.Proofs.YtelfmddcjlocpaaGreatDoor.Sq
end
