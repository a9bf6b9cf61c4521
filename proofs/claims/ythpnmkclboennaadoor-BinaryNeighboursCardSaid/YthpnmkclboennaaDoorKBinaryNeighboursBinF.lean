/- What the printed functions of a format answer (sign, hidden, inf, take, finite, parts; the reference's Of, Check, finite, Cut, Parts), told by the format's numbers. Plain Lean. Conditions: words below 2^64. -/
import Derived.Test.YthpnmkclboennaaDoorKBinaryNeighboursWEqStruct
import Derived.Test.YthpnmkclboennaaDoorKBinaryNeighboursPLibx1
import Derived.Test.YthpnmkclboennaaDoorKBinaryNeighboursPLibx8
import Derived.Test.YthpnmkclboennaaDoorKBinaryNeighboursPLibx7
import Derived.Test.YthpnmkclboennaaDoorKBinaryNeighboursPLibx9
import Derived.Test.YthpnmkclboennaaDoorKBinaryNeighboursPLibx2
namespace Go.Proofs.YthpnmkclboennaaDoor.BinF
open Go.RowKit Go.Proofs.YthpnmkclboennaaDoorW.PrintWords Go.Proofs.YthpnmkclboennaaDoorW.PrintMore Go.Proofs.YthpnmkclboennaaDoor.Num Go.Proofs.YthpnmkclboennaaDoor.PLib Go.Proofs.YthpnmkclboennaaDoor.Ref Go.Proofs.YthpnmkclboennaaDoor.BinLaw Go.Proofs.YthpnmkclboennaaDoor.BinO2
def hdF (F : Fmt) : Nat := F.sg - F.inf
def mgF (F : Fmt) (s : Nat) : Nat := if s / hdF F = 0 then s % hdF F else hdF F + s % hdF F
def xpF (F : Fmt) (s : Nat) : Int := if s / hdF F = 0 then F.low else F.low + (s / hdF F : Nat) - 1
abbrev tk (F : Fmt) (neg : Bool) (s : Nat) (e : Int) : Int × Int × Int × Int × Bool × Int × Int := (F.wd, F.man, F.low, F.qt, neg, s, e)
theorem fm_isF {f : Int} {F : Fmt} (h : Fm f F) : IsF F := by
  rcases h with ⟨_, rfl⟩ | ⟨_, rfl⟩
  · exact .inl rfl
  · exact .inr rfl
theorem fm_hd {f : Int} {F : Fmt} (h : Fm f F) : 0 < hdF F ∧ hdF F + F.inf = F.sg ∧ hdF F ≤ 4503599627370496 := by
  rcases h with ⟨_, rfl⟩ | ⟨_, rfl⟩ <;> exact ⟨by decide, by decide, by decide⟩
theorem sign_f {f : Int} {F : Fmt} (h : Fm f F) : binary_shape_sign.f (F.wd : Nat) (F.man : Nat) F.low (F.qt : Nat) = some ((F.sg : Nat) : Int) := by
  rcases h with ⟨_, rfl⟩ | ⟨_, rfl⟩ <;> decide +kernel
theorem hidden_f {f : Int} {F : Fmt} (h : Fm f F) : binary_shape_hidden.f (F.wd : Nat) (F.man : Nat) F.low (F.qt : Nat) = some ((hdF F : Nat) : Int) := by
  rcases h with ⟨_, rfl⟩ | ⟨_, rfl⟩ <;> decide +kernel
theorem inf_f {f : Int} {F : Fmt} (h : Fm f F) : binary_shape_inf.f (F.wd : Nat) (F.man : Nat) F.low (F.qt : Nat) = some ((F.inf : Nat) : Int) := by
  rcases h with ⟨_, rfl⟩ | ⟨_, rfl⟩ <;> decide +kernel
theorem take_j {f : Int} {F : Fmt} (h : Fm f F) (k b : Nat) : binary_take.f k f (b : Int) = binary_take.j0 k (b : Int) (if F.wd = 32 then ((shr .u64 (b : Int) 32) != 0) else false) (F.wd : Nat) (F.man : Nat) F.low (F.qt : Nat) := by
  rcases h with ⟨rfl, rfl⟩ | ⟨rfl, rfl⟩ <;> rfl
theorem high_bits {f : Int} {F : Fmt} (h : Fm f F) (b : Nat) (hb : b < 18446744073709551616) : (if F.wd = 32 then ((shr .u64 (b : Int) 32) != 0) else false) = decide (2 * F.sg ≤ b) := by
  rcases h with ⟨rfl, rfl⟩ | ⟨rfl, rfl⟩
  · have e : shr .u64 (b : Int) 32 = ((b / 4294967296 : Nat) : Int) := by
      have h2 := shr_small (k := .u64) (x := (b : Int)) (y := 32) rfl (by decide)
      rw [← h2]; rfl
    show ((shr .u64 (b : Int) 32) != 0) = decide (2 * 2147483648 ≤ b)
    rw [e]
    by_cases c : 4294967296 ≤ b
    · rw [decide_eq_true c]; simp; omega
    · rw [decide_eq_false c]; simp; omega
  · show false = decide (2 * 9223372036854775808 ≤ b)
    rw [decide_eq_false (by omega)]
theorem take_ok {f : Int} {F : Fmt} (h : Fm f F) (b : Nat) (hb : b < 2 * F.sg) : Ev (fun k => binary_take.f k f (b : Int)) (tk F (decide (F.sg ≤ b)) (b % F.sg) 0) := by
  have hz := h.sz
  refine Ev.congr (fun k => take_j h k b) ?_
  rw [high_bits h b (by omega), decide_eq_false (by omega)]
  refine Ev.step (f := fun _ => some (tk F (decide (F.sg ≤ b)) (b % F.sg) 0)) (fun k => ?_) (Ev.now _)
  simp only [binary_take.j0, sign_f h, Option.bind_some]
  rw [if_neg (by decide), and_sg (fm_isF h) hb, andNot_sg (fm_isF h) hb]
theorem take_bad {f : Int} {F : Fmt} (h : Fm f F) (b : Nat) (hb : b < 18446744073709551616) (h2 : 2 * F.sg ≤ b) : Ev (fun k => binary_take.f k f (b : Int)) (tk F false 0 2) := by
  refine Ev.congr (fun k => take_j h k b) ?_
  rw [high_bits h b hb, decide_eq_true h2]
  exact Ev.step (f := fun _ => some (tk F false 0 2)) (fun k => by rw [binary_take.j0, if_pos rfl]; rfl) (Ev.now _)
theorem finite_ok {f : Int} {F : Fmt} (h : Fm f F) (b : Nat) (hb : b < 2 * F.sg) (hi : b % F.sg < F.inf) : Ev (fun k => binary_finite.f k f (b : Int)) (tk F (decide (F.sg ≤ b)) (b % F.sg) 0) := by
  unfold binary_finite.f
  refine Ev.bind (take_ok h b hb) ?_
  simp only [tk, inf_f h, Option.bind_some, if_true]
  refine Ev.step (f := fun _ => some (tk F (decide (F.sg ≤ b)) (b % F.sg) 0)) (fun k => ?_) (Ev.now _)
  simp only [binary_finite.j0]
  exact (if_neg (show ¬ decide (((b % F.sg : Nat) : Int) ≥ ((F.inf : Nat) : Int)) = true from fun c => by have := of_decide_eq_true c; omega))
theorem finite_class {f : Int} {F : Fmt} (h : Fm f F) (b : Nat) (hb : b < 2 * F.sg) (hi : F.inf ≤ b % F.sg) : Ev (fun k => binary_finite.f k f (b : Int)) (tk F false 0 6) := by
  unfold binary_finite.f
  refine Ev.bind (take_ok h b hb) ?_
  simp only [tk, inf_f h, Option.bind_some, if_true]
  refine Ev.step (f := fun _ => some (tk F false 0 6)) (fun k => ?_) (Ev.now _)
  simp only [binary_finite.j0]
  exact if_pos (show decide (((b % F.sg : Nat) : Int) ≥ ((F.inf : Nat) : Int)) = true from decide_eq_true (by omega))
theorem finite_bad {f : Int} {F : Fmt} (h : Fm f F) (b : Nat) (hb : b < 18446744073709551616) (h2 : 2 * F.sg ≤ b) : Ev (fun k => binary_finite.f k f (b : Int)) (tk F false 0 2) := by
  unfold binary_finite.f
  refine Ev.bind (take_bad h b hb h2) ?_
  exact Ev.congr (fun k => if_neg (show ¬ (2 : Int) = 0 by decide)) (Ev.step (f := fun _ => some (tk F false 0 2)) (fun k => by rw [binary_finite.j0, if_neg (by decide)]) (Ev.now _))
theorem parts_f {f : Int} {F : Fmt} (h : Fm f F) (s : Nat) (hs : s < F.sg) : binary_shape_parts.f (F.wd : Nat) (F.man : Nat) F.low (F.qt : Nat) (s : Int) = some (((mgF F s : Nat) : Int), xpF F s) := by
  have hz := h.sz
  have hh := (fm_hd h)
  have hl : -1074 ≤ F.low ∧ F.low ≤ -149 := by rcases h with ⟨_, rfl⟩ | ⟨_, rfl⟩ <;> exact ⟨by decide, by decide⟩
  have hq : s / hdF F ≤ 2048 := by
    have : s / hdF F < 2048 := by
      rw [Nat.div_lt_iff_lt_mul hh.1]
      rcases h with ⟨_, rfl⟩ | ⟨_, rfl⟩
      · have : s < 2147483648 := hs
        show s < 2048 * 8388608; omega
      · have : s < 9223372036854775808 := hs
        show s < 2048 * 4503599627370496; omega
    omega
  have hr : s % hdF F < hdF F := Nat.mod_lt _ hh.1
  unfold binary_shape_parts.f mgF xpF
  simp only [hidden_f h, Option.bind_some, ← Int.ofNat_tdiv, ← Int.ofNat_tmod]
  generalize s / hdF F = q at hq ⊢
  generalize s % hdF F = r at hr ⊢
  generalize hdF F = d at hh hr ⊢
  rw [if_neg (by omega), if_neg (by omega), wu64 (by omega) (by omega)]
  by_cases c : q = 0
  · rw [if_pos (by omega), if_pos c, if_pos c]
  · rw [if_neg (by omega), if_neg c, if_neg c, wu64 (by omega) (by omega), w64 (x := ((q : Nat) : Int)) (by omega) (by omega), w64 (x := F.low + _) (by omega) (by omega), w64 (by omega) (by omega)]
    rfl
end Go.Proofs.YthpnmkclboennaaDoor.BinF
