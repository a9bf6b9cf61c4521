/- What the law's plays answers of Nearest and Narrow. Plain Lean over the functions. Condition: words. The walks of the laws RoundNarrows and RoundNearests: they return true, and the world has at most new blocks. Conditions: the script reads as calls; math/bits' table. What the reference's comparison of scaled numbers and its rounding to binary64 answer: the rung of the exact number, rounded to nearest, ties to even. Plain Lean over the printed functions. Conditions: exponents within 2^30, numbers of less than 2^37 digits. What the reference's bits, its lowest bit that is set, and its question of shortness answer, told by numbers. Plain Lean over the printed functions. Conditions: numbers of less than 2^38 digits. -/
import Derived.Test.YtelfmddcjlocpaaGreatDoorKRoundCellsPxQ1
import Derived.Test.YtelfmddcjlocpaaGreatDoorKRoundCellsRnRow
import Derived.Test.YtelfmddcjlocpaaGreatDoorKRoundCellsPxP0
import Derived.Test.YtelfmddcjlocpaaGreatDoorKRoundCellsPxZ0
import Derived.Test.YtelfmddcjlocpaaGreatDoorKRoundCellsPxL2
import Derived.Test.YtelfmddcjlocpaaGreatDoorKRoundCellsTwin
import Derived.Test.YtelfmddcjlocpaaGreatDoorKRoundCellsRefH
import Derived.Test.YtelfmddcjlocpaaGreatDoorKRoundCellsPxL0
section
set_option linter.unusedVariables false
namespace Go.Proofs.YtelfmddcjlocpaaGreatDoor.RnP
open Go.RowKit Go.Proofs.YtelfmddcjlocpaaGreatDoorW.PrintWords Go.Proofs.YtelfmddcjlocpaaGreatDoorW.PrintMore Go.Proofs.YtelfmddcjlocpaaGreatDoor.Num Go.Proofs.YtelfmddcjlocpaaGreatDoor.PLib Go.Proofs.YtelfmddcjlocpaaGreatDoor.Ref Go.Proofs.YtelfmddcjlocpaaGreatDoor.GTh Go.Proofs.YtelfmddcjlocpaaGreatDoor.Given Go.Proofs.YtelfmddcjlocpaaGreatDoor.RnAll Go.Proofs.YtelfmddcjlocpaaGreatDoor.RnL Go.Proofs.YtelfmddcjlocpaaGreatDoor.RnN Go.Proofs.YtelfmddcjlocpaaGreatDoor.Rp5 Go.Proofs.YtelfmddcjlocpaaGreatDoor.BinLaw Go.Proofs.YtelfmddcjlocpaaGreatDoor.Fm8 Go.Proofs.YtelfmddcjlocpaaGreatDoor.Rnd
theorem rp_twin {a : Bool} {l : List Int} {e : Int} (h : l.length ≤ 17592186044416) : gnomonref05_Twin.f a l e = some (a, l, e) := by
 unfold gnomonref05_Twin.f gnomonref01_Twin.f
 rw [if_pos (by omega)]; rfl
theorem law_twin {w : World} {t : El} (ok : Ok w t) : gnomonlaw08_twin.f t.kd t.fm t.na t.la t.ea t.nb t.lb t.eb (t.wd : Int) = some (t.kd, t.fm, t.na, t.la, t.ea, t.nb, t.lb, t.eb, (t.wd : Int)) := by
 unfold gnomonlaw08_twin.f
 rw [rp_twin ok.sa, Option.bind_some, rp_twin ok.sb]; rfl
end Go.Proofs.YtelfmddcjlocpaaGreatDoor.RnP
end
section
namespace Go.Proofs.YtelfmddcjlocpaaGreatDoor.RnScrW
open Go Go.RowKit Go.Proofs.YtelfmddcjlocpaaGreatDoorW.PrintWords Go.Proofs.YtelfmddcjlocpaaGreatDoorW.PrintMore Go.Proofs.YtelfmddcjlocpaaGreatDoorW.PrintLast Go.Proofs.YtelfmddcjlocpaaGreatDoor.GBase Go.Proofs.YtelfmddcjlocpaaGreatDoor.RnAll Go.Proofs.YtelfmddcjlocpaaGreatDoor.Px Go.Proofs.YtelfmddcjlocpaaGreatDoor.PLib
theorem run_r {f : FuncId} {args : List PV} {x : PV} (h : Con Tryz.prog Gw f args (· = x)) {w : World} (gw : Gw w) {vs : List Value} (hv : All2 (RepV w N0 none') args vs) : Calls Tryz.prog f vs.toArray w fun e w' => ∃ v, e = .returned v ∧ RepV w' N0 none' x v ∧ Below w.heap.size w w' :=
 (h.2 w N0 vs gw (fun _ h => h.elim) hv).mono fun e w' ⟨v, x', he, hx, hr, hb⟩ => by
  subst hx
  exact ⟨v, he, hr, hb⟩
theorem plays_at {kd : Int} (hp : ∀ (t : El) (w : World), Ok w t → t.kd = kd → Ev (fun k => gnomonlaw08_plays.f k t.kd t.fm t.na t.la t.ea t.nb t.lb t.eb (t.wd : Int)) true) : PlaysOk kd kd := by
 intro t w gw ok h1 h2
 obtain ⟨n, hn⟩ := (hp t w ok (by omega)).rounds
 exact run_t (gnomonlaw08_plays.c hn) gw (.cons ⟨[_, _, _, _, _, _, _, _, _], rfl, .cons rfl (.cons rfl (.cons rfl (.cons ok.ra (.cons rfl (.cons rfl (.cons ok.rb (.cons rfl (.cons rfl .nil))))))))⟩ .nil)
end Go.Proofs.YtelfmddcjlocpaaGreatDoor.RnScrW
end
section
namespace Go.Proofs.YtelfmddcjlocpaaGreatDoor.Ref
open Go.RowKit Go.Proofs.YtelfmddcjlocpaaGreatDoorW.PrintWords Go.Proofs.YtelfmddcjlocpaaGreatDoorW.PrintMore Go.Proofs.YtelfmddcjlocpaaGreatDoor.Num Go.Proofs.YtelfmddcjlocpaaGreatDoor.PLib Go.Proofs.YtelfmddcjlocpaaGreatDoor.PRef Go.Proofs.YtelfmddcjlocpaaGreatDoor.PRfz Fl
theorem bl_dg (m : Nat) : bl m ≤ 32 * (dg m).length := by
 apply bl_le_of_lt; have := dg_len_lt m; rwa [pw_B] at this
end Go.Proofs.YtelfmddcjlocpaaGreatDoor.Ref
end
section
namespace Go.Proofs.YtelfmddcjlocpaaGreatDoor.Ref
open Go.RowKit Go.Proofs.YtelfmddcjlocpaaGreatDoorW.PrintWords Go.Proofs.YtelfmddcjlocpaaGreatDoorW.PrintMore Go.Proofs.YtelfmddcjlocpaaGreatDoor.Num Go.Proofs.YtelfmddcjlocpaaGreatDoor.PLib Go.Proofs.YtelfmddcjlocpaaGreatDoor.PRef Go.Proofs.YtelfmddcjlocpaaGreatDoor.PRfz Fl
theorem wraps_u32 (n : Int) (h₀ : 0 ≤ n) (h₁ : n < 2 ^ 32) : IntKind.u32.wrap n = n := by rw [IntKind.wrap_u32]; omega
theorem mask1 {x : Int} (h0 : 0 ≤ x) (h1 : x < 4294967296) : Go.bits .and .u32 x 1 = x % 2 :=
 bits_mask .u32 32 (by decide) wraps_u32 1 (by decide) x h0 h1
theorem rd_dg (m i : Nat) : rd (dg m) (i : Int) = ((m / B^i % B : Nat) : Int) := by
 have h := drop_dg i m
 by_cases hi : i < (dg m).length
 ·rw [rd_get hi]
  rw [List.drop_eq_getElem_cons hi] at h
  have hne : m / B^i ≠ 0 := by intro e; rw [e, dg_zero] at h; cases h
  rw [dg_pos hne] at h
  injection h
 ·rw [rd_out (by omega)]
  rw [List.drop_eq_nil_of_le (by omega)] at h
  have : m / B^i = 0 := dg_nil_iff.1 h.symm
  rw [this]; rfl
theorem bit_num (d r : Nat) (hr : r < 32) (hd : d < 4294967296) : wrap64 (Go.bits .and .u32 (shr .u32 (d : Int) (r : Int)) 1) = ((d / 2^r % 2 : Nat) : Int) := by
 have e : shr .u32 (d : Int) (r : Int) = ((d / 2^r : Nat) : Int) := by
  rw [← shr_small (k := .u32) (x := (d : Int)) (y := (r : Int)) rfl (by have : IntKind.u32.bits = 32 := rfl; rw [this]; omega), Int.toNat_natCast]
  push_cast; rfl
 have hle : d / 2^r ≤ d := Nat.div_le_self _ _
 rw [e]
 generalize d / 2^r = q at *
 rw [mask1 (by omega) (by omega), w64 (by omega) (by omega)]
 omega
theorem low_bit (m x : Nat) : m / B^(x / 32) % B / 2^(x % 32) % 2 = m / 2^x % 2 := by
 have h := div_pow_split m x
 rw [← h]
 generalize m / B^(x / 32) = q
 have hr : x % 32 < 32 := Nat.mod_lt _ (by decide)
 generalize x % 32 = r at *
 have hB : B = 2^(r + 1) * 2^(31 - r) := by rw [← Nat.pow_add, B_eq]; rw [show r + 1 + (31 - r) = 32 by omega]
 have e1 := Nat.div_add_mod q B
 have e2 : q = q % B + 2^r * (2 * (2^(31 - r) * (q / B))) := by
  have : 2^r * (2 * (2^(31 - r) * (q / B))) = B * (q / B) := by
   rw [hB, Nat.pow_succ]; simp only [Nat.mul_assoc]
  omega
 have e3 : q / 2^r = q % B / 2^r + 2 * (2^(31 - r) * (q / B)) := by
  rw (occs := .pos [1]) [e2]
  rw [Nat.add_mul_div_left _ _ (Nat.two_pow_pos r)]
 rw [e3]; omega
theorem bit_ev (m x : Nat) (_hm : (dg m).length < 274877906944) (hx : x < 1099511627776) : Ev (fun k => gnomonref01_Bit.f k (dg m) (x : Int)) ((m / 2^x % 2 : Nat) : Int) := by
 unfold gnomonref01_Bit.f
 have e1 : wrap64 (Int.tdiv (x : Int) 32) = ((x / 32 : Nat) : Int) := by rw [tdiv32, w64 (by omega) (by omega)]
 have c0 : ¬ (x : Int) < 0 := by omega
 simp only [if_neg c0, e1]
 by_cases h : (dg m).length ≤ x / 32
 ·have hd : ((x / 32 : Nat) : Int) ≥ ((dg m).length : Int) := by omega
  simp only [decide_eq_true hd]
  have hr := rd_dg m (x / 32)
  rw [rd_out h] at hr
  have hz : m / 2^x % 2 = 0 := by
   rw [← low_bit]
   have : m / B^(x / 32) % B = 0 := by omega
   rw [this, Nat.zero_div]
  rw [hz]
  exact Ev.step (f := fun _ => some 0) (fun k => by simp only [gnomonref01_Bit.j0]; rw [if_pos trivial]) (Ev.now _)
 ·have hd : ¬ ((x / 32 : Nat) : Int) ≥ ((dg m).length : Int) := by omega
  simp only [decide_eq_false hd]
  have hb := low_bit m x
  have hlt : m / B^(x / 32) % B < 4294967296 := Nat.mod_lt _ B_pos
  refine Ev.step (f := fun _ => some ((m / 2^x % 2 : Nat) : Int)) (fun k => ?_) (Ev.now _)
  simp only [gnomonref01_Bit.j0]
  rw [if_neg (by decide), e1, if_pos (by omega), if_pos (by omega), tmod32, if_pos (by omega), rd_dg, bit_num _ _ (Nat.mod_lt _ (by decide)) hlt, hb]
def Low (m z : Nat) : Prop := 2^z ∣ m ∧ ¬ 2^(z + 1) ∣ m
theorem dvd_step {m x : Nat} (h : 2^x ∣ m) (h2 : m / 2^x % 2 = 0) : 2^(x + 1) ∣ m := by
 obtain ⟨q, rfl⟩ := h
 rw [Nat.mul_div_cancel_left _ (Nat.two_pow_pos x)] at h2
 rw [Nat.pow_succ]
 exact Nat.mul_dvd_mul_left _ (Nat.dvd_of_mod_eq_zero h2)
theorem dvd_no {m x : Nat} (h2 : m / 2^x % 2 ≠ 0) : ¬ 2^(x + 1) ∣ m := by
 rintro ⟨q, rfl⟩
 rw [Nat.pow_succ, Nat.mul_assoc, Nat.mul_div_cancel_left _ (Nat.two_pow_pos x)] at h2
 omega
theorem dvd_bl {m x : Nat} (h0 : m ≠ 0) (h : 2^x ∣ m) : x < bl m := by
 have h1 := Nat.le_of_dvd (by omega) h
 have h2 := bl_lt m
 exact (Nat.pow_lt_pow_iff_right (by decide)).1 (Nat.lt_of_le_of_lt h1 h2)
theorem zeros_l1 (m : Nat) (h0 : m ≠ 0) (hm : (dg m).length < 274877906944) (d : Nat) : ∀ x : Nat, bl m - x = d → 2^x ∣ m → x < 1099511627776 - d → ∃ z : Nat, Low m z ∧ Ev (fun k => gnomonref01_Zeros.l1 k (dg m) (x : Int)) (z : Int) := by
 induction d with
 | zero => intro x hd hx _; have := dvd_bl h0 hx; omega
 | succ d ih =>
  intro x hd hx hlt
  have hb := bit_ev m x hm (by omega)
  by_cases h2 : m / 2^x % 2 = 0
  ·obtain ⟨z, hz, hev⟩ := ih (x + 1) (by omega) (dvd_step hx h2) (by omega)
   refine ⟨z, hz, Ev.step (f := fun k => (gnomonref01_Bit.f k (dg m) (x : Int)).bind fun t => if t = 0 then gnomonref01_Zeros.l1 k (dg m) (wrap64 ((x : Int) + 1)) else some (x : Int)) (fun k => by simp only [gnomonref01_Zeros.l1]) ?_⟩
   refine Ev.bind hb ?_
   rw [h2, next_x x (by omega)]
   simp only [Int.natCast_zero, if_true]
   exact hev
  ·refine ⟨x, ⟨hx, dvd_no h2⟩, Ev.step (f := fun k => (gnomonref01_Bit.f k (dg m) (x : Int)).bind fun t => if t = 0 then gnomonref01_Zeros.l1 k (dg m) (wrap64 ((x : Int) + 1)) else some (x : Int)) (fun k => by simp only [gnomonref01_Zeros.l1]) ?_⟩
   refine Ev.bind hb ?_
   have c : ¬ ((m / 2^x % 2 : Nat) : Int) = 0 := by omega
   simp only [if_neg c]
   exact Ev.now _
theorem zeros_l0 (m : Nat) (h0 : m ≠ 0) (hm : (dg m).length < 8589934592) (d : Nat) : ∀ i : Nat, (dg m).length - i = d → 2^(32 * i) ∣ m → ∃ z : Nat, Low m z ∧ Ev (fun k => gnomonref01_Zeros.l0 k (dg m) ((32 * i : Nat) : Int)) (z : Int) := by
 have hbl := bl_dg m
 induction d with
 | zero =>
  intro i hd hi
  have h1 := Nat.le_of_dvd (by omega) hi
  have h2 := dg_len_lt m
  rw [pw_B] at h2
  have := (Nat.pow_lt_pow_iff_right (a := 2) (by decide)).1 (Nat.lt_of_le_of_lt h1 h2)
  omega
 | succ d ih =>
  intro i hd hi
  have e1 : wrap64 (Int.tdiv ((32 * i : Nat) : Int) 32) = (i : Int) := by rw [tdiv32, Nat.mul_div_cancel_left _ (by decide), w64 (by omega) (by omega)]
  have c1 : (i : Int) < ((dg m).length : Int) := by omega
  have c2 : (0 : Int) ≤ (i : Int) := by omega
  by_cases hz : m / B^i % B = 0
  ·have hdv : 2^(32 * (i + 1)) ∣ m := by
    rw [← pw_B] at hi ⊢
    obtain ⟨q, hq⟩ := hi
    rw [hq, Nat.mul_div_cancel_left _ (Bp i)] at hz
    rw [hq, Nat.pow_succ]
    exact Nat.mul_dvd_mul_left _ (Nat.dvd_of_mod_eq_zero hz)
   obtain ⟨z, hlow, hev⟩ := ih (i + 1) (by omega) hdv
   refine ⟨z, hlow, ?_⟩
   refine Ev.step (f := fun k => gnomonref01_Zeros.j1 k (dg m) ((32 * i : Nat) : Int) true) (fun k => by simp only [gnomonref01_Zeros.l0]; rw [e1, if_pos c1, if_pos c2, rd_dg, hz]; rfl) ?_
   refine Ev.step (f := fun k => gnomonref01_Zeros.l0 k (dg m) ((32 * (i + 1) : Nat) : Int)) (fun k => by simp only [gnomonref01_Zeros.j1]; rw [if_pos trivial, w64 (by omega) (by omega)]; rfl) hev
  ·obtain ⟨z, hlow, hev⟩ := zeros_l1 m h0 (by omega) (bl m - 32 * i) (32 * i) rfl hi (by omega)
   refine ⟨z, hlow, ?_⟩
   have hb : (((m / B^i % B : Nat) : Int) == 0) = false := by rw [beq_eq_false_iff_ne]; omega
   refine Ev.step (f := fun k => gnomonref01_Zeros.j1 k (dg m) ((32 * i : Nat) : Int) false) (fun k => by simp only [gnomonref01_Zeros.l0]; rw [e1, if_pos c1, if_pos c2, rd_dg, hb]) ?_
   exact Ev.step (f := fun k => gnomonref01_Zeros.l1 k (dg m) ((32 * i : Nat) : Int)) (fun k => by simp only [gnomonref01_Zeros.j1]; rw [if_neg (by decide)]) hev
theorem zeros_ev (m : Nat) (h0 : m ≠ 0) (hm : (dg m).length < 8589934592) : ∃ z : Nat, Low m z ∧ Ev (fun k => gnomonref01_Zeros.f k (dg m)) (z : Int) := by
 obtain ⟨z, h, hev⟩ := zeros_l0 m h0 hm _ 0 rfl (by rw [Nat.mul_zero, Nat.pow_zero]; exact Nat.one_dvd _)
 refine ⟨z, h, ?_⟩
 unfold gnomonref01_Zeros.f
 have c : ¬ ((dg m).length : Int) = 0 := by have := dg_len_zero (n := m); omega
 simp only [if_neg c]
 exact hev
end Go.Proofs.YtelfmddcjlocpaaGreatDoor.Ref
end
