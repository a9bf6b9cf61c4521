/- What the reference's bits, its lowest bit that is set, and its question of shortness answer, told by numbers. Plain Lean over the printed functions. Conditions: numbers of less than 2^38 digits. What round.Decide and round.Cell answer is what the document's answer. Plain Lean over the functions. Condition: words. The law's awake answers true: closed. Plain Lean over the functions. Functions of the program as plain Lean functions (definitions as the print's), and that the machine's calls do what they do (contracts 'X.c', by Px). Condition: math/bits' table is laid. The root of a number's square is the number, rounded; a root's cell squared holds the number: the plain law. Plain Lean over the functions. Condition: a list of words. -/
import Derived.Test.YtelfmddcjlocpaaGreatDoorKRoundQuotedRefH
import Derived.Test.YtelfmddcjlocpaaGreatDoorKRoundQuotedPxL0
import Derived.Test.YtelfmddcjlocpaaGreatDoorKRoundQuotedGN
import Derived.Test.YtelfmddcjlocpaaGreatDoorKRoundQuotedPRefx0
import Derived.Test.YtelfmddcjlocpaaGreatDoorKRoundQuotedPxQ0
import Derived.Test.YtelfmddcjlocpaaGreatDoorKRoundQuotedPxL1
import Derived.Test.YtelfmddcjlocpaaGreatDoorKRoundQuotedPRfzx0
import Derived.Test.YtelfmddcjlocpaaGreatDoorKRoundQuotedPxRfz
import Derived.Test.YtelfmddcjlocpaaGreatDoorKRoundQuotedGivenD
import Derived.Test.YtelfmddcjlocpaaGreatDoorKRoundQuotedPxA
import Derived.Laws.CopyOwn
import Derived.Laws.MakeOwn
import Derived.Test.YtelfmddcjlocpaaGreatDoorKRoundQuotedPxV0
import Derived.Test.YtelfmddcjlocpaaGreatDoorKRoundQuotedPxNd
import Derived.Test.YtelfmddcjlocpaaGreatDoorKRoundQuotedRnQ
section
namespace Go.Proofs.YtelfmddcjlocpaaGreatDoor.Ref
open Go.RowKit Go.Proofs.YtelfmddcjlocpaaGreatDoorW.PrintWords Go.Proofs.YtelfmddcjlocpaaGreatDoorW.PrintMore Go.Proofs.YtelfmddcjlocpaaGreatDoor.Num Go.Proofs.YtelfmddcjlocpaaGreatDoor.PLib Go.Proofs.YtelfmddcjlocpaaGreatDoor.PRef Go.Proofs.YtelfmddcjlocpaaGreatDoor.PRfz Fl
theorem wraps_u32 (n : Int) (h₀ : 0 ≤ n) (h₁ : n < 2 ^ 32) : IntKind.u32.wrap n = n := by rw [IntKind.wrap_u32]; omega
theorem mask1 {x : Int} (h0 : 0 ≤ x) (h1 : x < 4294967296) : Go.bits .and .u32 x 1 = x % 2 :=
 bits_mask .u32 32 (by decide) wraps_u32 1 (by decide) x h0 h1
theorem rd_dg (m i : Nat) : rd (dg m) (i : Int) = ((m / B^i % B : Nat) : Int) := by
 have h := drop_dg i m
 by_cases hi : i < (dg m).length
 ·rw [rd_get hi]
  rw [List.drop_eq_getElem_cons hi] at h
  have hne : m / B^i ≠ 0 := by intro e; rw [e, dg_zero] at h; cases h
  rw [dg_pos hne] at h
  injection h
 ·rw [rd_out (by omega)]
  rw [List.drop_eq_nil_of_le (by omega)] at h
  have : m / B^i = 0 := dg_nil_iff.1 h.symm
  rw [this]; rfl
theorem bit_num (d r : Nat) (hr : r < 32) (hd : d < 4294967296) : wrap64 (Go.bits .and .u32 (shr .u32 (d : Int) (r : Int)) 1) = ((d / 2^r % 2 : Nat) : Int) := by
 have e : shr .u32 (d : Int) (r : Int) = ((d / 2^r : Nat) : Int) := by
  rw [← shr_small (k := .u32) (x := (d : Int)) (y := (r : Int)) rfl (by have : IntKind.u32.bits = 32 := rfl; rw [this]; omega), Int.toNat_natCast]
  push_cast; rfl
 have hle : d / 2^r ≤ d := Nat.div_le_self _ _
 rw [e]
 generalize d / 2^r = q at *
 rw [mask1 (by omega) (by omega), w64 (by omega) (by omega)]
 omega
theorem low_bit (m x : Nat) : m / B^(x / 32) % B / 2^(x % 32) % 2 = m / 2^x % 2 := by
 have h := div_pow_split m x
 rw [← h]
 generalize m / B^(x / 32) = q
 have hr : x % 32 < 32 := Nat.mod_lt _ (by decide)
 generalize x % 32 = r at *
 have hB : B = 2^(r + 1) * 2^(31 - r) := by rw [← Nat.pow_add, B_eq]; rw [show r + 1 + (31 - r) = 32 by omega]
 have e1 := Nat.div_add_mod q B
 have e2 : q = q % B + 2^r * (2 * (2^(31 - r) * (q / B))) := by
  have : 2^r * (2 * (2^(31 - r) * (q / B))) = B * (q / B) := by
   rw [hB, Nat.pow_succ]; simp only [Nat.mul_assoc]
  omega
 have e3 : q / 2^r = q % B / 2^r + 2 * (2^(31 - r) * (q / B)) := by
  rw (occs := .pos [1]) [e2]
  rw [Nat.add_mul_div_left _ _ (Nat.two_pow_pos r)]
 rw [e3]; omega
theorem bit_ev (m x : Nat) (_hm : (dg m).length < 274877906944) (hx : x < 1099511627776) : Ev (fun k => gnomonref01_Bit.f k (dg m) (x : Int)) ((m / 2^x % 2 : Nat) : Int) := by
 unfold gnomonref01_Bit.f
 have e1 : wrap64 (Int.tdiv (x : Int) 32) = ((x / 32 : Nat) : Int) := by rw [tdiv32, w64 (by omega) (by omega)]
 have c0 : ¬ (x : Int) < 0 := by omega
 simp only [if_neg c0, e1]
 by_cases h : (dg m).length ≤ x / 32
 ·have hd : ((x / 32 : Nat) : Int) ≥ ((dg m).length : Int) := by omega
  simp only [decide_eq_true hd]
  have hr := rd_dg m (x / 32)
  rw [rd_out h] at hr
  have hz : m / 2^x % 2 = 0 := by
   rw [← low_bit]
   have : m / B^(x / 32) % B = 0 := by omega
   rw [this, Nat.zero_div]
  rw [hz]
  exact Ev.step (f := fun _ => some 0) (fun k => by simp only [gnomonref01_Bit.j0]; rw [if_pos trivial]) (Ev.now _)
 ·have hd : ¬ ((x / 32 : Nat) : Int) ≥ ((dg m).length : Int) := by omega
  simp only [decide_eq_false hd]
  have hb := low_bit m x
  have hlt : m / B^(x / 32) % B < 4294967296 := Nat.mod_lt _ B_pos
  refine Ev.step (f := fun _ => some ((m / 2^x % 2 : Nat) : Int)) (fun k => ?_) (Ev.now _)
  simp only [gnomonref01_Bit.j0]
  rw [if_neg (by decide), e1, if_pos (by omega), if_pos (by omega), tmod32, if_pos (by omega), rd_dg, bit_num _ _ (Nat.mod_lt _ (by decide)) hlt, hb]
end Go.Proofs.YtelfmddcjlocpaaGreatDoor.Ref
end
section
set_option linter.unusedVariables false
namespace Go.Proofs.YtelfmddcjlocpaaGreatDoor.RnC
open Go.RowKit Go.Proofs.YtelfmddcjlocpaaGreatDoorW.PrintWords Go.Proofs.YtelfmddcjlocpaaGreatDoorW.PrintMore Go.Proofs.YtelfmddcjlocpaaGreatDoor.Num Go.Proofs.YtelfmddcjlocpaaGreatDoor.PLib Go.Proofs.YtelfmddcjlocpaaGreatDoor.PRef Go.Proofs.YtelfmddcjlocpaaGreatDoor.Ref Go.Proofs.YtelfmddcjlocpaaGreatDoor.GTh Go.Proofs.YtelfmddcjlocpaaGreatDoor.Given Go.Proofs.YtelfmddcjlocpaaGreatDoor.Rp1 Go.Proofs.YtelfmddcjlocpaaGreatDoor.Rp3 Go.Proofs.YtelfmddcjlocpaaGreatDoor.Rp4 Go.Proofs.YtelfmddcjlocpaaGreatDoor.Rp5 Go.Proofs.YtelfmddcjlocpaaGreatDoor.Rp7 Go.Proofs.YtelfmddcjlocpaaGreatDoor.BinLaw Go.Proofs.YtelfmddcjlocpaaGreatDoor.Fm8 Go.Proofs.YtelfmddcjlocpaaGreatDoor.Rnd Go.Proofs.YtelfmddcjlocpaaGreatDoor.Sq Go.Proofs.YtelfmddcjlocpaaGreatDoor.Sz Go.Proofs.YtelfmddcjlocpaaGreatDoor.RnL Go.Proofs.YtelfmddcjlocpaaGreatDoor.RnN
theorem ev_uniq {α : Type} {g : Nat → Option α} {a b : α} (h : Ev g a) (h' : Ev g b) : a = b := by
 obtain ⟨K, hK⟩ := h
 obtain ⟨K', hK'⟩ := h'
 have e1 := hK (K + K') (by omega)
 have e2 := hK' (K + K') (by omega)
 rw [e1] at e2
 exact Option.some.inj e2
theorem check_bad {f : Int} {F : Fmt} (h : Fm f F) {b : Nat} (hb : b < 18446744073709551616) (h2 : 2 * F.sg ≤ b) : gnomonref07_Check.f f (b : Int) = some 2 := by
 obtain ⟨G, oF⟩ := rn_of h
 have hz := h.sz
 have e : Int.tdiv (b : Int) 2 = ((b / 2 : Nat) : Int) := (Int.ofNat_tdiv b 2).symm
 unfold gnomonref07_Check.f
 rw [oF]
 simp only [Option.bind_some, if_true]
 rw [e, wu64 (by omega) (by omega), if_pos (by omega)]
end Go.Proofs.YtelfmddcjlocpaaGreatDoor.RnC
end
section
namespace Go.Proofs.YtelfmddcjlocpaaGreatDoor.RnAw
open Go.RowKit Go.Proofs.YtelfmddcjlocpaaGreatDoorW.PrintWords Go.Proofs.YtelfmddcjlocpaaGreatDoorW.PrintMore Go.Proofs.YtelfmddcjlocpaaGreatDoor.PLib
theorem rn_awake : Ev (fun k => gnomonlaw08_awake.f k) true := Ev.of (fun k => gnomonlaw08_awake.mono k) (k := 200) (by decide +kernel)
end Go.Proofs.YtelfmddcjlocpaaGreatDoor.RnAw
end
section
set_option linter.unusedVariables false
namespace Go.Proofs.YtelfmddcjlocpaaGreatDoor.PLib
open Go Go.RowKit Go.Proofs.YtelfmddcjlocpaaGreatDoorW.PrintWords Go.Proofs.YtelfmddcjlocpaaGreatDoorW.PrintMore Go.Proofs.YtelfmddcjlocpaaGreatDoor.Given Go.Proofs.YtelfmddcjlocpaaGreatDoor.Px Go.Proofs.YtelfmddcjlocpaaGreatDoor.PRef Go.Proofs.YtelfmddcjlocpaaGreatDoor.PRfz
def num_Mul.f (a0_0 : Bool) (l0_1 : List Int) (a1_0 : Bool) (l1_1 : List Int) : Option (Bool × List Int × Int) := (num_Form.f a0_0 l0_1).bind fun t1 => (if t1 = true then ((num_Form.f a1_0 l1_1).bind fun t2 => (if t2 = true then ((natmul_Mul.f l0_1 l1_1).bind fun bt3 => ((num_told.f (a0_0 != a1_0) bt3.1 bt3.2).bind fun bt4 => (some (bt4.1, bt4.2.1, bt4.2.2)))) else (some (false, ([] : List Int), 2)))) else (some (false, ([] : List Int), 2)))
theorem num_Mul.c {a0_0 : Bool} {l0_1 : List Int} {a1_0 : Bool} {l1_1 : List Int} {r : Bool × List Int × Int} (h : num_Mul.f a0_0 l0_1 a1_0 l1_1 = some r) : Con Tryz.prog Gw 45 [.ag [.b a0_0, .sl .u64 l0_1], .ag [.b a1_0, .sl .u64 l1_1]] (· = .tu [.ag [.b r.1, .sl .u64 r.2.1], .s (.i .i64 r.2.2)]) := by
 unfold num_Mul.f at h
 obtain ⟨t1, A1, h⟩ := bnd h
 rcases ite_e h with ⟨c2, h⟩ | ⟨c2, h⟩
 ·obtain ⟨t2, A3, h⟩ := bnd h
  rcases ite_e h with ⟨c4, h⟩ | ⟨c4, h⟩
  ·obtain ⟨bt3, A5, h⟩ := bnd h
   obtain ⟨bt4, A6, h⟩ := bnd h
   have h := si h; subst h
   exact pth Tryz.func45 [.r (.s (.b t1)), .br false, .br false, .r (.s (.b t2)), .br false, .br false, .br false, .r (.tu [.s (.sl .u64 bt3.1), .s (.i .i64 bt3.2)]), .r (.tu [.ag [.b bt4.1, .sl .u64 bt4.2.1], .s (.i .i64 bt4.2.2)])] (fun e => ai (num_Form.c A1) (ai (nt1 c2) (ai (nt1 c2) (ai (num_Form.c A3) (ai (nt1 c2) (ai (nt1 c2) (ai (nt1 c4) (ai (natmul_Mul.c A5) (ai (num_told.c A6) e))))))))) (by kernel_rfl)
  ·have h := si h; subst h
   exact pth Tryz.func45 [.r (.s (.b t1)), .br false, .br false, .r (.s (.b t2)), .br false, .br false, .br true] (fun e => ai (num_Form.c A1) (ai (nt1 c2) (ai (nt1 c2) (ai (num_Form.c A3) (ai (nt1 c2) (ai (nt1 c2) (ai (nt0 (z0 c4)) e))))))) (by kernel_rfl)
 ·have h := si h; subst h
  exact pth Tryz.func45 [.r (.s (.b t1)), .br true, .br true, .br true, .br true, .br true] (fun e => ai (num_Form.c A1) (ai (nt0 (z0 c2)) (ai (nt0 (z0 c2)) (ai (nt0 (z0 c2)) (ai (nt0 (z0 c2)) (ai tt e)))))) (by kernel_rfl)
def dyadic_Mul.f (k : Nat) (a0_0 : Bool) (l0_1 : List Int) (a0_2 : Int) (a1_0 : Bool) (l1_1 : List Int) (a1_2 : Int) : Option (Bool × List Int × Int × Int) := (dyadic_Form.f k a0_0 l0_1 a0_2).bind fun t1 => (if t1 = true then ((dyadic_Form.f k a1_0 l1_1 a1_2).bind fun t2 => (if t2 = true then ((num_Mul.f a0_0 l0_1 a1_0 l1_1).bind fun bt3 => (if bt3.2.2 = 0 then ((dyadic_Make.f k bt3.1 bt3.2.1 (wrap64 (a0_2 + a1_2))).bind fun bt4 => (some (bt4.1, bt4.2.1, bt4.2.2.1, bt4.2.2.2))) else (some (false, ([] : List Int), 0, bt3.2.2)))) else (some (false, ([] : List Int), 0, 2)))) else (some (false, ([] : List Int), 0, 2)))
theorem dyadic_Mul.mono : ∀ a0 a1 a2 a3 a4 a5 k, LeO (dyadic_Mul.f k a0 a1 a2 a3 a4 a5) (dyadic_Mul.f (k + 1) a0 a1 a2 a3 a4 a5) := by
 intro a0 a1 a2 a3 a4 a5 k
 unfold dyadic_Mul.f
 repeat' first
  | (with_reducible exact dyadic_Form.mono _ _ _ _)
  | (with_reducible exact dyadic_Make.mono _ _ _ _)
  | (with_reducible exact LeO.refl _)
  | (with_reducible exact LeO.none _)
  | (with_reducible refine LeO.ite ?_ ?_)
  | (with_reducible refine LeO.bind ?_ (fun _ => ?_))
theorem dyadic_Mul.c {k : Nat} {a0_0 : Bool} {l0_1 : List Int} {a0_2 : Int} {a1_0 : Bool} {l1_1 : List Int} {a1_2 : Int} {r : Bool × List Int × Int × Int} (h : dyadic_Mul.f k a0_0 l0_1 a0_2 a1_0 l1_1 a1_2 = some r) : Con Tryz.prog Gw 16 [.ag [.b a0_0, .sl .u64 l0_1, .i .i64 a0_2], .ag [.b a1_0, .sl .u64 l1_1, .i .i64 a1_2]] (· = .tu [.ag [.b r.1, .sl .u64 r.2.1, .i .i64 r.2.2.1], .s (.i .i64 r.2.2.2)]) := by
 unfold dyadic_Mul.f at h
 obtain ⟨t1, A1, h⟩ := bnd h
 rcases ite_e h with ⟨c2, h⟩ | ⟨c2, h⟩
 ·obtain ⟨t2, A3, h⟩ := bnd h
  rcases ite_e h with ⟨c4, h⟩ | ⟨c4, h⟩
  ·obtain ⟨bt3, A5, h⟩ := bnd h
   rcases ite_e h with ⟨c6, h⟩ | ⟨c6, h⟩
   ·obtain ⟨bt4, A7, h⟩ := bnd h
    have h := si h; subst h
    exact pth Tryz.func16 [.r (.s (.b t1)), .br false, .br false, .r (.s (.b t2)), .br false, .br false, .br false, .r (.tu [.ag [.b bt3.1, .sl .u64 bt3.2.1], .s (.i .i64 bt3.2.2)]), .br false, .r (.tu [.ag [.b bt4.1, .sl .u64 bt4.2.1, .i .i64 bt4.2.2.1], .s (.i .i64 bt4.2.2.2)])] (fun e => ai (dyadic_Form.c A1) (ai (nt1 c2) (ai (nt1 c2) (ai (dyadic_Form.c A3) (ai (nt1 c2) (ai (nt1 c2) (ai (nt1 c4) (ai (num_Mul.c A5) (ai (n0 c6) (ai (dyadic_Make.c A7) e)))))))))) (by kernel_rfl)
   ·have h := si h; subst h
    exact pth Tryz.func16 [.r (.s (.b t1)), .br false, .br false, .r (.s (.b t2)), .br false, .br false, .br false, .r (.tu [.ag [.b bt3.1, .sl .u64 bt3.2.1], .s (.i .i64 bt3.2.2)]), .br true] (fun e => ai (dyadic_Form.c A1) (ai (nt1 c2) (ai (nt1 c2) (ai (dyadic_Form.c A3) (ai (nt1 c2) (ai (nt1 c2) (ai (nt1 c4) (ai (num_Mul.c A5) (ai (n1 c6) e))))))))) (by kernel_rfl)
  ·have h := si h; subst h
   exact pth Tryz.func16 [.r (.s (.b t1)), .br false, .br false, .r (.s (.b t2)), .br false, .br false, .br true] (fun e => ai (dyadic_Form.c A1) (ai (nt1 c2) (ai (nt1 c2) (ai (dyadic_Form.c A3) (ai (nt1 c2) (ai (nt1 c2) (ai (nt0 (z0 c4)) e))))))) (by kernel_rfl)
 ·have h := si h; subst h
  exact pth Tryz.func16 [.r (.s (.b t1)), .br true, .br true, .br true, .br true, .br true] (fun e => ai (dyadic_Form.c A1) (ai (nt0 (z0 c2)) (ai (nt0 (z0 c2)) (ai (nt0 (z0 c2)) (ai (nt0 (z0 c2)) (ai tt e)))))) (by kernel_rfl)
def gnomonlaw08_easy.f (k : Nat) (a0_0 : Bool) (l0_1 : List Int) (a0_2 : Int) : Option (Bool) := (gnomonref05_DocForm.f k a0_0 l0_1 a0_2).bind fun t1 => (if t1 = true then (if (l0_1.length : Int) ≤ 300 then (if a0_2 ≥ (-5000) then (some (decide (a0_2 ≤ 5000))) else (some false)) else (some false)) else (some false))
theorem gnomonlaw08_easy.mono : ∀ a0 a1 a2 k, LeO (gnomonlaw08_easy.f k a0 a1 a2) (gnomonlaw08_easy.f (k + 1) a0 a1 a2) := by
 intro a0 a1 a2 k
 unfold gnomonlaw08_easy.f
 repeat' first
  | (with_reducible exact gnomonref05_DocForm.mono _ _ _ _)
  | (with_reducible exact LeO.refl _)
  | (with_reducible exact LeO.none _)
  | (with_reducible refine LeO.ite ?_ ?_)
  | (with_reducible refine LeO.bind ?_ (fun _ => ?_))
theorem gnomonlaw08_easy.c {k : Nat} {a0_0 : Bool} {l0_1 : List Int} {a0_2 : Int} {r : Bool} (h : gnomonlaw08_easy.f k a0_0 l0_1 a0_2 = some r) : Con Tryz.prog Gw 14 [.ag [.b a0_0, .sl .u64 l0_1, .i .i64 a0_2]] (· = .s (.b r)) := by
 unfold gnomonlaw08_easy.f at h
 obtain ⟨t1, A1, h⟩ := bnd h
 rcases ite_e h with ⟨c2, h⟩ | ⟨c2, h⟩
 ·rcases ite_e h with ⟨c3, h⟩ | ⟨c3, h⟩
  ·rcases ite_e h with ⟨c4, h⟩ | ⟨c4, h⟩
   ·have h := si h; subst h
    exact pth Tryz.func14 [.r (.s (.b t1)), .br true, .br true, .br true, .br true, .br true, .br true, .br true, .br true, .br true, .br true, .br true, .br true, .br true, .br true] (fun e => ai (gnomonref05_DocForm.c A1) (ai c2 (ai c2 (ai c2 (ai c2 (ai c2 (ai c2 (ai (d1 c3) (ai (d1 c3) (ai (d1 c3) (ai (d1 c3) (ai (d1 c4) (ai (d1 c4) (ai (d1 c4) (ai (d1 c4) e))))))))))))))) (by kernel_rfl)
   ·have h := si h; subst h
    exact pth Tryz.func14 [.r (.s (.b t1)), .br true, .br true, .br true, .br true, .br true, .br true, .br true, .br true, .br true, .br true, .br false, .br false, .br false, .br false] (fun e => ai (gnomonref05_DocForm.c A1) (ai c2 (ai c2 (ai c2 (ai c2 (ai c2 (ai c2 (ai (d1 c3) (ai (d1 c3) (ai (d1 c3) (ai (d1 c3) (ai (d0 c4) (ai (d0 c4) (ai (d0 c4) (ai (d0 c4) e))))))))))))))) (by kernel_rfl)
  ·have h := si h; subst h
   exact pth Tryz.func14 [.r (.s (.b t1)), .br true, .br true, .br true, .br true, .br true, .br true, .br false, .br false, .br false, .br false, .br false, .br false, .br false, .br false] (fun e => ai (gnomonref05_DocForm.c A1) (ai c2 (ai c2 (ai c2 (ai c2 (ai c2 (ai c2 (ai (d0 c3) (ai (d0 c3) (ai (d0 c3) (ai (d0 c3) (ai ff (ai ff (ai ff (ai ff e))))))))))))))) (by kernel_rfl)
 ·have h := si h; subst h
  exact pth Tryz.func14 [.r (.s (.b t1)), .br false, .br false, .br false, .br false, .br false, .br false, .br false, .br false, .br false, .br false, .br false, .br false, .br false, .br false] (fun e => ai (gnomonref05_DocForm.c A1) (ai (z0 c2) (ai (z0 c2) (ai (z0 c2) (ai (z0 c2) (ai (z0 c2) (ai (z0 c2) (ai ff (ai ff (ai ff (ai ff (ai ff (ai ff (ai ff (ai ff e))))))))))))))) (by kernel_rfl)
end Go.Proofs.YtelfmddcjlocpaaGreatDoor.PLib
end
section
set_option linter.unusedVariables false
namespace Go.Proofs.YtelfmddcjlocpaaGreatDoor.RoundRootedL
open Go.RowKit Go.Proofs.YtelfmddcjlocpaaGreatDoorW.PrintWords Go.Proofs.YtelfmddcjlocpaaGreatDoorW.PrintMore Go.Proofs.YtelfmddcjlocpaaGreatDoor.Num Go.Proofs.YtelfmddcjlocpaaGreatDoor.PLib Go.Proofs.YtelfmddcjlocpaaGreatDoor.PRef Go.Proofs.YtelfmddcjlocpaaGreatDoor.Ref Go.Proofs.YtelfmddcjlocpaaGreatDoor.GTh Go.Proofs.YtelfmddcjlocpaaGreatDoor.Given Go.Proofs.YtelfmddcjlocpaaGreatDoor.Rp1 Go.Proofs.YtelfmddcjlocpaaGreatDoor.Rp2 Go.Proofs.YtelfmddcjlocpaaGreatDoor.Rp3 Go.Proofs.YtelfmddcjlocpaaGreatDoor.Rp4 Go.Proofs.YtelfmddcjlocpaaGreatDoor.Rp5 Go.Proofs.YtelfmddcjlocpaaGreatDoor.Rp7 Go.Proofs.YtelfmddcjlocpaaGreatDoor.BinLaw Go.Proofs.YtelfmddcjlocpaaGreatDoor.Fm8 Go.Proofs.YtelfmddcjlocpaaGreatDoor.Rnd Go.Proofs.YtelfmddcjlocpaaGreatDoor.Sq Go.Proofs.YtelfmddcjlocpaaGreatDoor.Sz Go.Proofs.YtelfmddcjlocpaaGreatDoor.SzR Go.Proofs.YtelfmddcjlocpaaGreatDoor.RnL Go.Proofs.YtelfmddcjlocpaaGreatDoor.RnN Go.Proofs.YtelfmddcjlocpaaGreatDoor.RnQ Go.Proofs.YtelfmddcjlocpaaGreatDoor.RnC
theorem bl_mul2 {m m' a b : Nat} (h : bl m ≤ a) (h' : bl m' ≤ b) : bl (m * m') ≤ a + b :=
 bl_le_of_lt (by rw [Nat.pow_add]; exact Nat.mul_lt_mul'' (Nat.lt_of_lt_of_le (bl_lt m) (Nat.pow_le_pow_right (by decide) h)) (Nat.lt_of_lt_of_le (bl_lt m') (Nat.pow_le_pow_right (by decide) h')))
theorem mul_dk {n n' : Bool} {m m' : Nat} {x x' : Int} (h : Dk n m x) (h' : Dk n' m' x') (m0 : m ≠ 0) (m0' : m' ≠ 0) (hl : nl (m * m') ≤ 8192) (h1 : -1048576 ≤ x + x') (h2 : x + x' ≤ 1048576) :
  Ev (fun k => dyadic_Mul.f k n (lb m) x n' (lb m') x') (n != n', lb (m * m'), x + x', 0) := by
 have mm := Nat.mul_ne_zero m0 m0'
 have od : (m * m') % 2 = 1 := by rw [Nat.mul_mod, h.odd m0, h'.odd m0']
 have e1 : num_Mul.f n (lb m) n' (lb m') = some (n != n', lb (m * m'), 0) := by
  unfold num_Mul.f
  rw [numForm_lb h.lim (fun e => absurd e m0), numForm_lb h'.lim (fun e => absurd e m0')]
  have e2 : natmul_Mul.f (lb m) (lb m') = some (lb (m * m'), 0) := by
   unfold natmul_Mul.f
   rw [if_pos ⟨fmL_lb h.lim, fmL_lb h'.lim, by rw [vL_lb, vL_lb]; exact hl⟩, vL_lb, vL_lb]
  simp only [Option.bind_some, if_true, e2, told_f, decide_eq_true mm, Bool.and_true]
 unfold dyadic_Mul.f
 have w : wrap64 (x + x') = x + x' := w64 (by omega) (by omega)
 rw [w]
 exact Ev.bind (form_dk h) (Ev.congr (fun k => if_pos rfl) (Ev.bind (form_dk h') (Ev.congr (fun k => if_pos rfl) (Ev.bind (rn_ev e1) (Ev.congr (fun k => if_pos rfl) (Ev.bind (make_odd hl od h1 h2) (Ev.now _)))))))
theorem wf_lb (m : Nat) : Wf (lb m) := by
 intro v hv
 unfold lb at hv
 obtain ⟨j, -, rfl⟩ := List.mem_map.1 hv
 have : dw m j < 18446744073709551616 := by unfold dw; exact Nat.mod_lt _ (by decide)
 omega
theorem easy_ev (n : Bool) (l : List Int) (x : Int) : ∃ b : Bool, Ev (fun k => gnomonlaw08_easy.f k n l x) b ∧ (b = true → dyB n l x = true ∧ l.length ≤ 300 ∧ -5000 ≤ x ∧ x ≤ 5000) := by
 have g := docForm_ev n l x
 unfold gnomonlaw08_easy.f
 cases e : dyB n l x
 ·rw [e] at g
  exact ⟨false, Ev.bind g (Ev.congr (fun k => if_neg (by decide)) (Ev.now _)), fun c => by cases c⟩
 rw [e] at g
 by_cases c1 : (l.length : Int) ≤ 300
 rotate_left
 ·exact ⟨false, Ev.bind g (Ev.congr (fun k => if_pos rfl) (Ev.congr (fun k => if_neg c1) (Ev.now _))), fun c => by cases c⟩
 by_cases c2 : x ≥ (-5000)
 rotate_left
 ·exact ⟨false, Ev.bind g (Ev.congr (fun k => if_pos rfl) (Ev.congr (fun k => if_pos c1) (Ev.congr (fun k => if_neg c2) (Ev.now _)))), fun c => by cases c⟩
 refine ⟨decide (x ≤ 5000), Ev.bind g (Ev.congr (fun k => if_pos rfl) (Ev.congr (fun k => if_pos c1) (Ev.congr (fun k => if_pos c2) (Ev.now _)))), fun c => ⟨rfl, by omega, c2, of_decide_eq_true c⟩⟩
end Go.Proofs.YtelfmddcjlocpaaGreatDoor.RoundRootedL
end
