/- What the printed functions of a format answer: take, finite, parts, classes, midpoints, cells, neighbours, ranks. Plain Lean over the printed functions. Conditions: words below 2^64. -/
import Derived.Test.YtbfahgbhbhnbnaaDoorKBinaryMiddlesRp4
import Derived.Test.YtbfahgbhbhnbnaaDoorKBinaryMiddlesPxL0
namespace Go.Proofs.YtbfahgbhbhnbnaaDoor.Rp5
open Go.RowKit Go.Proofs.YtbfahgbhbhnbnaaDoorW.PrintWords Go.Proofs.YtbfahgbhbhnbnaaDoorW.PrintMore Go.Proofs.YtbfahgbhbhnbnaaDoor.Num Go.Proofs.YtbfahgbhbhnbnaaDoor.PLib Go.Proofs.YtbfahgbhbhnbnaaDoor.Ref Go.Proofs.YtbfahgbhbhnbnaaDoor.GTh Go.Proofs.YtbfahgbhbhnbnaaDoor.Given Go.Proofs.YtbfahgbhbhnbnaaDoor.Rp1 Go.Proofs.YtbfahgbhbhnbnaaDoor.Rp2 Go.Proofs.YtbfahgbhbhnbnaaDoor.Rp3 Go.Proofs.YtbfahgbhbhnbnaaDoor.Rp4 Go.Proofs.YtbfahgbhbhnbnaaDoor.BinLaw Go.Proofs.YtbfahgbhbhnbnaaDoor.Fm8
abbrev tk (F : Fmt) (neg : Bool) (s : Nat) (e : Int) : Int × Int × Int × Int × Bool × Int × Int := (F.wd, F.man, F.low, F.qt, neg, s, e)
theorem sign_f {f : Int} {F : Fmt} (h : Fm f F) : binary_shape_sign.f (F.wd : Nat) (F.man : Nat) F.low (F.qt : Nat) = some ((F.sg : Nat) : Int) := by
 rcases h with ⟨_, rfl⟩ | ⟨_, rfl⟩ <;> decide +kernel
theorem hidden_f {f : Int} {F : Fmt} (h : Fm f F) : binary_shape_hidden.f (F.wd : Nat) (F.man : Nat) F.low (F.qt : Nat) = some ((hdF F : Nat) : Int) := by
 rcases h with ⟨_, rfl⟩ | ⟨_, rfl⟩ <;> decide +kernel
theorem binf_f {f : Int} {F : Fmt} (h : Fm f F) : binary_shape_inf.f (F.wd : Nat) (F.man : Nat) F.low (F.qt : Nat) = some ((F.inf : Nat) : Int) := by
 rcases h with ⟨_, rfl⟩ | ⟨_, rfl⟩ <;> decide +kernel
theorem take_j {f : Int} {F : Fmt} (h : Fm f F) (k b : Nat) : binary_take.f k f (b : Int) = binary_take.j0 k (b : Int) (if F.wd = 32 then ((shr .u64 (b : Int) 32) != 0) else false) (F.wd : Nat) (F.man : Nat) F.low (F.qt : Nat) := by
 rcases h with ⟨rfl, rfl⟩ | ⟨rfl, rfl⟩ <;> rfl
theorem high_bits {f : Int} {F : Fmt} (h : Fm f F) (b : Nat) (hb : b < 18446744073709551616) : (if F.wd = 32 then ((shr .u64 (b : Int) 32) != 0) else false) = decide (2 * F.sg ≤ b) := by
 rcases h with ⟨rfl, rfl⟩ | ⟨rfl, rfl⟩
 ·have e : shr .u64 (b : Int) 32 = ((b / 4294967296 : Nat) : Int) := by
   have h2 := shr_small (k := .u64) (x := (b : Int)) (y := 32) rfl (by decide)
   rw [← h2]; rfl
  show ((shr .u64 (b : Int) 32) != 0) = decide (2 * 2147483648 ≤ b)
  rw [e]
  by_cases c : 4294967296 ≤ b
  ·rw [decide_eq_true c]; simp; omega
  ·rw [decide_eq_false c]; simp; omega
 ·show false = decide (2 * 9223372036854775808 ≤ b)
  rw [decide_eq_false (by omega)]
theorem take_ok {f : Int} {F : Fmt} (h : Fm f F) (b : Nat) (hb : b < 2 * F.sg) : Ev (fun k => binary_take.f k f (b : Int)) (tk F (decide (F.sg ≤ b)) (b % F.sg) 0) := by
 have hz := h.sz
 refine Ev.congr (fun k => take_j h k b) ?_
 rw [high_bits h b (by omega), decide_eq_false (by omega)]
 refine Ev.step (f := fun _ => some (tk F (decide (F.sg ≤ b)) (b % F.sg) 0)) (fun k => ?_) (Ev.now _)
 simp only [binary_take.j0, sign_f h, Option.bind_some]
 rw [if_neg (by decide), and_sg (fm_isF h) hb, andNot_sg (fm_isF h) hb]
theorem finite_ok {f : Int} {F : Fmt} (h : Fm f F) (b : Nat) (hb : b < 2 * F.sg) (hi : b % F.sg < F.inf) : Ev (fun k => binary_finite.f k f (b : Int)) (tk F (decide (F.sg ≤ b)) (b % F.sg) 0) := by
 unfold binary_finite.f
 refine Ev.bind (take_ok h b hb) ?_
 simp only [tk, binf_f h, Option.bind_some, if_true]
 refine Ev.step (f := fun _ => some (tk F (decide (F.sg ≤ b)) (b % F.sg) 0)) (fun k => ?_) (Ev.now _)
 simp only [binary_finite.j0]
 exact (if_neg (show ¬ decide (((b % F.sg : Nat) : Int) ≥ ((F.inf : Nat) : Int)) = true from fun c => by have := of_decide_eq_true c; omega))
theorem parts_f {f : Int} {F : Fmt} (h : Fm f F) (s : Nat) (hs : s < F.sg) : binary_shape_parts.f (F.wd : Nat) (F.man : Nat) F.low (F.qt : Nat) (s : Int) = some (((mgF F s : Nat) : Int), xpF F s) := by
 have hz := h.sz
 have hh := (fm_hd h)
 have hl : -1074 ≤ F.low ∧ F.low ≤ -149 := by rcases h with ⟨_, rfl⟩ | ⟨_, rfl⟩ <;> exact ⟨by decide, by decide⟩
 have hq : s / hdF F ≤ 2048 := by
  have : s / hdF F < 2048 := by
   rw [Nat.div_lt_iff_lt_mul hh.1]
   rcases h with ⟨_, rfl⟩ | ⟨_, rfl⟩
   ·have : s < 2147483648 := hs
    show s < 2048 * 8388608; omega
   ·have : s < 9223372036854775808 := hs
    show s < 2048 * 4503599627370496; omega
  omega
 have hr : s % hdF F < hdF F := Nat.mod_lt _ hh.1
 unfold binary_shape_parts.f mgF xpF
 simp only [hidden_f h, Option.bind_some, ← Int.ofNat_tdiv, ← Int.ofNat_tmod]
 generalize s / hdF F = q at hq ⊢
 generalize s % hdF F = r at hr ⊢
 generalize hdF F = d at hh hr ⊢
 rw [if_neg (by omega), if_neg (by omega), wu64 (by omega) (by omega)]
 by_cases c : q = 0
 ·rw [if_pos (by omega), if_pos c, if_pos c]
 ·rw [if_neg (by omega), if_neg c, if_neg c, wu64 (by omega) (by omega), w64 (x := ((q : Nat) : Int)) (by omega) (by omega), w64 (x := F.low + _) (by omega) (by omega), w64 (by omega) (by omega)]
  rfl
theorem pat_mod (F : Fmt) (neg : Bool) {s : Nat} (hs : s < F.sg) : pat F neg s % F.sg = s := by
 unfold pat
 cases neg
 ·exact Nat.mod_eq_of_lt hs
 ·rw [if_pos rfl, Nat.add_mod_left, Nat.mod_eq_of_lt hs]
theorem pat_ge (F : Fmt) (neg : Bool) {s : Nat} (hs : s < F.sg) : decide (F.sg ≤ pat F neg s) = neg := by
 unfold pat
 cases neg
 ·rw [if_neg (by decide)]; exact decide_eq_false (by omega)
 ·rw [if_pos rfl]; exact decide_eq_true (by omega)
theorem pat_lt (F : Fmt) (neg : Bool) {s : Nat} (hs : s < F.sg) : pat F neg s < 2 * F.sg := by
 unfold pat
 cases neg
 ·rw [if_neg (by decide)]; omega
 ·rw [if_pos rfl]; omega
theorem pat_of {F : Fmt} {b : Nat} (hb : b < 2 * F.sg) (h0 : 0 < F.sg) : b = pat F (decide (F.sg ≤ b)) (b % F.sg) ∧ b % F.sg < F.sg := by
 have hm := Nat.mod_lt b h0
 refine ⟨?_, hm⟩
 unfold pat
 by_cases c : F.sg ≤ b
 ·rw [decide_eq_true c, if_pos rfl, Nat.mod_eq_sub_mod c, Nat.mod_eq_of_lt (by omega)]; omega
 ·rw [decide_eq_false c, if_neg (by decide), Nat.mod_eq_of_lt (by omega)]
theorem finite_pat {f : Int} {F : Fmt} (h : Fm f F) (neg : Bool) {s : Nat} (hs : s < F.inf) : Ev (fun k => binary_finite.f k f ((pat F neg s : Nat) : Int)) (tk F neg s 0) := by
 have hs2 : s < F.sg := by have := h.sz; omega
 have := finite_ok h _ (pat_lt F neg hs2) (by rw [pat_mod F neg hs2]; exact hs)
 rwa [pat_ge F neg hs2, pat_mod F neg hs2] at this
theorem make_odd {neg : Bool} {m : Nat} {x : Int} (hl : nl m ≤ 8192) (ho : m % 2 = 1) (hx : -1048576 ≤ x) (hx2 : x ≤ 1048576) : Ev (fun k => dyadic_Make.f k neg (lb m) x) (neg, lb m, x, 0) := by
 have m0 : m ≠ 0 := by omega
 have ht : tz m = 0 := tz_eq ⟨m / 2, by rw [Nat.pow_zero]; omega⟩
 have p := nl_pos m0
 unfold dyadic_Make.f
 rw [numForm_lb hl (fun e => absurd e m0), trail_f hl m0, ht]
 simp only [Option.bind_some, if_true]
 have w : wrap64 (x + ((0 : Nat) : Int)) = x := by rw [w64 (by omega) (by omega)]; omega
 rw [w, lb_len]
 refine Ev.congr (fun k => if_neg (by omega)) (Ev.congr (fun k => if_neg (by omega)) (Ev.congr (fun k => if_neg (by omega)) (Ev.congr (fun k => if_neg (by omega)) (Ev.succ ?_))))
 rw [decide_eq_false (by omega)]
 simp only [dyadic_Make.j0]
 have e := shr_f (m := m) (n := 0) hl (by decide)
 rw [Nat.pow_zero, Nat.div_one] at e
 rw [e, w]
 exact Ev.now _
def mdm (F : Fmt) (s : Nat) : Nat := 2 * mgF F s + 1
def mdx (F : Fmt) (s : Nat) : Int := xpF F s - 1
theorem mg_lt {f : Int} {F : Fmt} (h : Fm f F) (s : Nat) : mgF F s < 9007199254740992 := by
 obtain ⟨h0, -, h1, -⟩ := fm_hd h
 have hm := Nat.mod_lt s h0
 unfold mgF
 split <;> omega
theorem dF_le {f : Int} {F : Fmt} (h : Fm f F) {s : Nat} (hs : s < F.sg) : dF F s ≤ 2048 := by
 unfold dF
 have : s / hdF F < 2048 := by
  rw [Nat.div_lt_iff_lt_mul (fm_hd h).1]
  rcases h with ⟨_, rfl⟩ | ⟨_, rfl⟩
  ·have : s < 2147483648 := hs
   show s < 2048 * 8388608; omega
  ·have : s < 9223372036854775808 := hs
   show s < 2048 * 4503599627370496; omega
 omega
theorem mdx_rng {f : Int} {F : Fmt} (h : Fm f F) {s : Nat} (hs : s < F.sg) : F.low - 1 ≤ mdx F s ∧ -1075 ≤ mdx F s ∧ mdx F s ≤ 2048 := by
 have := dF_le h hs
 have := fm_man h
 unfold mdx
 rw [xp_d]
 omega
theorem mdm_lim {f : Int} {F : Fmt} (h : Fm f F) (s : Nat) : nl (mdm F s) ≤ 8192 := by
 have := mg_lt h s
 have : nl (mdm F s) = 1 := nl_one (by unfold mdm; omega) (by unfold mdm; omega)
 omega
theorem mid_dk {f : Int} {F : Fmt} (h : Fm f F) (neg : Bool) {s : Nat} (hs : s < F.sg) : Dk neg (mdm F s) (mdx F s) := by
 have := mdx_rng h hs
 exact { lim := mdm_lim h s, zero := fun e => by unfold mdm at e; omega, odd := fun _ => by unfold mdm; omega, low := by omega, high := by omega }
theorem mid_pat {f : Int} {F : Fmt} (h : Fm f F) (neg : Bool) {s : Nat} (hs : s < F.inf) : Ev (fun k => binary_Mid.f k f ((pat F neg s : Nat) : Int)) (neg, lb (mdm F s), mdx F s, 0) := by
 have hs2 : s < F.sg := by have := h.sz; omega
 have hr := mdx_rng h hs2
 have hmg := mg_lt h s
 unfold binary_Mid.f
 refine Ev.bind (finite_pat h neg hs) (Ev.congr (fun k => if_pos rfl) ?_)
 simp only
 rw [parts_f h s hs2]
 simp only [Option.bind_some]
 have w1 : IntKind.u64.wrap (IntKind.u64.wrap (2 * ((mgF F s : Nat) : Int)) + 1) = ((mdm F s : Nat) : Int) := by
  rw [wu64 (x := 2 * _) (by omega) (by omega), wu64 (by omega) (by omega)]; unfold mdm; omega
 have w2 : wrap64 (xpF F s - 1) = mdx F s := by unfold mdx at *; rw [w64 (by omega) (by omega)]
 rw [w1, w2]
 refine Ev.bind (a := (neg, lb (mdm F s), mdx F s, 0)) ?_ (Ev.now _)
 unfold binary_number.f
 have hm : mdm F s < 18446744073709551616 := by unfold mdm; omega
 have mk := fun b => make_odd (neg := b) (mdm_lim h s) (show mdm F s % 2 = 1 by unfold mdm; omega) (x := mdx F s) (by omega) (by omega)
 rw [word_f _ hm]
 simp only [Option.bind_some]
 cases neg
 ·refine Ev.congr (fun k => if_neg (by decide)) (Ev.bind (mk false) (Ev.now _))
 ·have e : (((mdm F s : Nat) : Int) != 0) = true := by unfold mdm; simp; omega
  rw [e]
  refine Ev.congr (fun k => if_pos rfl) (Ev.bind (mk true) (Ev.now _))
theorem mid_vs {f : Int} {F : Fmt} (h : Fm f F) (neg : Bool) (s : Nat) (E : Int) (hE : E ≤ F.low - 1) : vs neg (mdm F s) (mdx F s) E = (if neg then -(((nF F s + nF F (s + 1)) * 2^(F.low - 1 - E).toNat : Nat) : Int) else (((nF F s + nF F (s + 1)) * 2^(F.low - 1 - E).toNat : Nat) : Int)) := by
 have e : mdm F s * 2^(mdx F s - E).toNat = (nF F s + nF F (s + 1)) * 2^(F.low - 1 - E).toNat := by
  have e1 : (mdx F s - E).toNat = dF F s + (F.low - 1 - E).toNat := by unfold mdx; rw [xp_d]; omega
  rw [e1, Nat.pow_add, ← Nat.mul_assoc, nF_next h]
  congr 1
  unfold mdm nF
  rw [Nat.add_mul, Nat.one_mul, Nat.mul_assoc, Nat.two_mul]; omega
 unfold vs
 rw [e]
end Go.Proofs.YtbfahgbhbhnbnaaDoor.Rp5
