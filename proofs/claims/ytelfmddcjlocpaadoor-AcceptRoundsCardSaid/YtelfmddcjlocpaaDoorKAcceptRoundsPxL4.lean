/- What the printed functions of a format answer: take, finite, parts, classes, midpoints, cells, neighbours, ranks. Plain Lean over the printed functions. Conditions: words below 2^64. Functions of the program as plain Lean functions (definitions as the print's), and that the machine's calls do what they do (contracts 'X.c', by Px). Condition: math/bits' table is laid. -/
import Derived.Test.YtelfmddcjlocpaaDoorKAcceptRoundsRp4
import Derived.Test.YtelfmddcjlocpaaDoorKAcceptRoundsPxL1
import Derived.Test.YtelfmddcjlocpaaDoorKAcceptRoundsPxBr
import Derived.Test.YtelfmddcjlocpaaDoorKAcceptRoundsPxGiven
import Derived.Test.YtelfmddcjlocpaaDoorProg
import Derived.Test.YtelfmddcjlocpaaDoorKAcceptRoundsGiven
import Derived.Below
import Derived.Deep.Draws
import Derived.Deep.AppendLies
import Derived.Maps.AppendAt
import Derived.OwnWalk
import Derived.Laws.BytesArg
import Derived.Laws.MakeOwn
import Derived.Laws.OwnMore
import Derived.Deep.OwnRows
import Derived.Tactics
import Derived.Lib.ConvBytes
import Derived.Laws.Slices
import Derived.WalkKit
import Derived.KernelRfl
import Derived.RowKit3
import Derived.Deep.LoopGhost
import Derived.Deep.QuietTactic
import Derived.BigQuiet
import Derived.WideLaws
import Derived.Deep.DeepCutAuto
import Derived.Deep.CutBlock
import Derived.Deep.RegionHeld3
import Derived.Laws.Rows
import Derived.Lib.AppendStr
import Derived.ArgAppend
import Derived.Laws.IdiomCopy
import Derived.OrdersHeld
import Derived.Laws.BitsLemmas
import Derived.RowKit
import Derived.Test.YtelfmddcjlocpaaDoorKAcceptRoundsWWords
import Derived.Test.YtelfmddcjlocpaaDoorKAcceptRoundsBl
import Derived.Test.YtelfmddcjlocpaaDoorKAcceptRoundsWInv
import Derived.Laws.StructEq
import Derived.Laws.CopyOwn
import Derived.Test.YtelfmddcjlocpaaDoorKAcceptRoundsPxL0
import Derived.Test.YtelfmddcjlocpaaDoorKAcceptRoundsPxL3
section
namespace Go.Proofs.YtelfmddcjlocpaaDoor.Rp5
open Go.RowKit Go.Proofs.YtelfmddcjlocpaaDoorW.PrintWords Go.Proofs.YtelfmddcjlocpaaDoorW.PrintMore Go.Proofs.YtelfmddcjlocpaaDoor.Num Go.Proofs.YtelfmddcjlocpaaDoor.PLib Go.Proofs.YtelfmddcjlocpaaDoor.Ref Go.Proofs.YtelfmddcjlocpaaDoor.GTh Go.Proofs.YtelfmddcjlocpaaDoor.Given Go.Proofs.YtelfmddcjlocpaaDoor.Rp1 Go.Proofs.YtelfmddcjlocpaaDoor.Rp2 Go.Proofs.YtelfmddcjlocpaaDoor.Rp3 Go.Proofs.YtelfmddcjlocpaaDoor.Rp4 Go.Proofs.YtelfmddcjlocpaaDoor.BinLaw Go.Proofs.YtelfmddcjlocpaaDoor.Fm8 Go.Proofs.YtelfmddcjlocpaaDoor.Rnd
abbrev tk (F : Fmt) (neg : Bool) (s : Nat) (e : Int) : Int × Int × Int × Int × Bool × Int × Int := (F.wd, F.man, F.low, F.qt, neg, s, e)
theorem sign_f {f : Int} {F : Fmt} (h : Fm f F) : binary_shape_sign.f (F.wd : Nat) (F.man : Nat) F.low (F.qt : Nat) = some ((F.sg : Nat) : Int) := by
 rcases h with ⟨_, rfl⟩ | ⟨_, rfl⟩ <;> decide +kernel
theorem hidden_f {f : Int} {F : Fmt} (h : Fm f F) : binary_shape_hidden.f (F.wd : Nat) (F.man : Nat) F.low (F.qt : Nat) = some ((hdF F : Nat) : Int) := by
 rcases h with ⟨_, rfl⟩ | ⟨_, rfl⟩ <;> decide +kernel
theorem binf_f {f : Int} {F : Fmt} (h : Fm f F) : binary_shape_inf.f (F.wd : Nat) (F.man : Nat) F.low (F.qt : Nat) = some ((F.inf : Nat) : Int) := by
 rcases h with ⟨_, rfl⟩ | ⟨_, rfl⟩ <;> decide +kernel
theorem take_j {f : Int} {F : Fmt} (h : Fm f F) (k b : Nat) : binary_take.f k f (b : Int) = binary_take.j0 k (b : Int) (if F.wd = 32 then ((shr .u64 (b : Int) 32) != 0) else false) (F.wd : Nat) (F.man : Nat) F.low (F.qt : Nat) := by
 rcases h with ⟨rfl, rfl⟩ | ⟨rfl, rfl⟩ <;> rfl
theorem high_bits {f : Int} {F : Fmt} (h : Fm f F) (b : Nat) (hb : b < 18446744073709551616) : (if F.wd = 32 then ((shr .u64 (b : Int) 32) != 0) else false) = decide (2 * F.sg ≤ b) := by
 rcases h with ⟨rfl, rfl⟩ | ⟨rfl, rfl⟩
 ·have e : shr .u64 (b : Int) 32 = ((b / 4294967296 : Nat) : Int) := by
   have h2 := shr_small (k := .u64) (x := (b : Int)) (y := 32) rfl (by decide)
   rw [← h2]; rfl
  show ((shr .u64 (b : Int) 32) != 0) = decide (2 * 2147483648 ≤ b)
  rw [e]
  by_cases c : 4294967296 ≤ b
  ·rw [decide_eq_true c]; simp; omega
  ·rw [decide_eq_false c]; simp; omega
 ·show false = decide (2 * 9223372036854775808 ≤ b)
  rw [decide_eq_false (by omega)]
theorem take_ok {f : Int} {F : Fmt} (h : Fm f F) (b : Nat) (hb : b < 2 * F.sg) : Ev (fun k => binary_take.f k f (b : Int)) (tk F (decide (F.sg ≤ b)) (b % F.sg) 0) := by
 have hz := h.sz
 refine Ev.congr (fun k => take_j h k b) ?_
 rw [high_bits h b (by omega), decide_eq_false (by omega)]
 refine Ev.step (f := fun _ => some (tk F (decide (F.sg ≤ b)) (b % F.sg) 0)) (fun k => ?_) (Ev.now _)
 simp only [binary_take.j0, sign_f h, Option.bind_some]
 rw [if_neg (by decide), and_sg (fm_isF h) hb, andNot_sg (fm_isF h) hb]
theorem finite_ok {f : Int} {F : Fmt} (h : Fm f F) (b : Nat) (hb : b < 2 * F.sg) (hi : b % F.sg < F.inf) : Ev (fun k => binary_finite.f k f (b : Int)) (tk F (decide (F.sg ≤ b)) (b % F.sg) 0) := by
 unfold binary_finite.f
 refine Ev.bind (take_ok h b hb) ?_
 simp only [tk, binf_f h, Option.bind_some, if_true]
 refine Ev.step (f := fun _ => some (tk F (decide (F.sg ≤ b)) (b % F.sg) 0)) (fun k => ?_) (Ev.now _)
 simp only [binary_finite.j0]
 exact (if_neg (show ¬ decide (((b % F.sg : Nat) : Int) ≥ ((F.inf : Nat) : Int)) = true from fun c => by have := of_decide_eq_true c; omega))
theorem parts_f {f : Int} {F : Fmt} (h : Fm f F) (s : Nat) (hs : s < F.sg) : binary_shape_parts.f (F.wd : Nat) (F.man : Nat) F.low (F.qt : Nat) (s : Int) = some (((mgF F s : Nat) : Int), xpF F s) := by
 have hz := h.sz
 have hh := (fm_hd h)
 have hl : -1074 ≤ F.low ∧ F.low ≤ -149 := by rcases h with ⟨_, rfl⟩ | ⟨_, rfl⟩ <;> exact ⟨by decide, by decide⟩
 have hq : s / hdF F ≤ 2048 := by
  have : s / hdF F < 2048 := by
   rw [Nat.div_lt_iff_lt_mul hh.1]
   rcases h with ⟨_, rfl⟩ | ⟨_, rfl⟩
   ·have : s < 2147483648 := hs
    show s < 2048 * 8388608; omega
   ·have : s < 9223372036854775808 := hs
    show s < 2048 * 4503599627370496; omega
  omega
 have hr : s % hdF F < hdF F := Nat.mod_lt _ hh.1
 unfold binary_shape_parts.f mgF xpF
 simp only [hidden_f h, Option.bind_some, ← Int.ofNat_tdiv, ← Int.ofNat_tmod]
 generalize s / hdF F = q at hq ⊢
 generalize s % hdF F = r at hr ⊢
 generalize hdF F = d at hh hr ⊢
 rw [if_neg (by omega), if_neg (by omega), wu64 (by omega) (by omega)]
 by_cases c : q = 0
 ·rw [if_pos (by omega), if_pos c, if_pos c]
 ·rw [if_neg (by omega), if_neg c, if_neg c, wu64 (by omega) (by omega), w64 (x := ((q : Nat) : Int)) (by omega) (by omega), w64 (x := F.low + _) (by omega) (by omega), w64 (by omega) (by omega)]
  rfl
theorem pat_mod (F : Fmt) (neg : Bool) {s : Nat} (hs : s < F.sg) : pat F neg s % F.sg = s := by
 unfold pat
 cases neg
 ·exact Nat.mod_eq_of_lt hs
 ·rw [if_pos rfl, Nat.add_mod_left, Nat.mod_eq_of_lt hs]
theorem pat_ge (F : Fmt) (neg : Bool) {s : Nat} (hs : s < F.sg) : decide (F.sg ≤ pat F neg s) = neg := by
 unfold pat
 cases neg
 ·rw [if_neg (by decide)]; exact decide_eq_false (by omega)
 ·rw [if_pos rfl]; exact decide_eq_true (by omega)
theorem pat_lt (F : Fmt) (neg : Bool) {s : Nat} (hs : s < F.sg) : pat F neg s < 2 * F.sg := by
 unfold pat
 cases neg
 ·rw [if_neg (by decide)]; omega
 ·rw [if_pos rfl]; omega
theorem finite_pat {f : Int} {F : Fmt} (h : Fm f F) (neg : Bool) {s : Nat} (hs : s < F.inf) : Ev (fun k => binary_finite.f k f ((pat F neg s : Nat) : Int)) (tk F neg s 0) := by
 have hs2 : s < F.sg := by have := h.sz; omega
 have := finite_ok h _ (pat_lt F neg hs2) (by rw [pat_mod F neg hs2]; exact hs)
 rwa [pat_ge F neg hs2, pat_mod F neg hs2] at this
theorem mg_lt {f : Int} {F : Fmt} (h : Fm f F) (s : Nat) : mgF F s < 9007199254740992 := by
 obtain ⟨h0, -, h1, -⟩ := fm_hd h
 have hm := Nat.mod_lt s h0
 unfold mgF
 split <;> omega
theorem dF_le {f : Int} {F : Fmt} (h : Fm f F) {s : Nat} (hs : s < F.sg) : dF F s ≤ 2048 := by
 unfold dF
 have : s / hdF F < 2048 := by
  rw [Nat.div_lt_iff_lt_mul (fm_hd h).1]
  rcases h with ⟨_, rfl⟩ | ⟨_, rfl⟩
  ·have : s < 2147483648 := hs
   show s < 2048 * 8388608; omega
  ·have : s < 9223372036854775808 := hs
   show s < 2048 * 4503599627370496; omega
 omega
end Go.Proofs.YtelfmddcjlocpaaDoor.Rp5
end
section
set_option linter.unusedVariables false
namespace Go.Proofs.YtelfmddcjlocpaaDoor.PLib
open Go Go.RowKit Go.Proofs.YtelfmddcjlocpaaDoorW.PrintWords Go.Proofs.YtelfmddcjlocpaaDoorW.PrintMore Go.Proofs.YtelfmddcjlocpaaDoor.Given Go.Proofs.YtelfmddcjlocpaaDoor.Px
def dyadic_twin.f (a0_0 : Bool) (l0_1 : List Int) (a0_2 : Int) : Option (Bool × List Int × Int) := (slices_Clone_uint64_uint64.f l0_1).bind fun t715 => (some (a0_0, t715, a0_2))
theorem dyadic_twin.c {a0_0 : Bool} {l0_1 : List Int} {a0_2 : Int} {r : Bool × List Int × Int} (h : dyadic_twin.f a0_0 l0_1 a0_2 = some r) : Con Tryd.prog Gw 59 [.ag [.b a0_0, .sl .u64 l0_1, .i .i64 a0_2]] (· = .ag [.b r.1, .sl .u64 r.2.1, .i .i64 r.2.2]) := by
 unfold dyadic_twin.f at h
 obtain ⟨t715, A1, h⟩ := bnd h
 have h := si h; subst h
 exact pth Tryd.func59 [.r (.s (.sl .u64 t715))] (fun e => ai (slices_Clone_uint64_uint64.c A1) e) (by kernel_rfl)
def dyadic_Neg.f (k : Nat) (a0_0 : Bool) (l0_1 : List Int) (a0_2 : Int) : Option (Bool × List Int × Int × Int) := (dyadic_Form.f k a0_0 l0_1 a0_2).bind fun t720 => (if t720 = true then ((dyadic_twin.f a0_0 l0_1 a0_2).bind fun bt721 => (if bt721.1 = true then (some (false, bt721.2.1, bt721.2.2, 0)) else ((dyadic_nought.f bt721.1 bt721.2.1 bt721.2.2).bind fun t726 => (some (!t726, bt721.2.1, bt721.2.2, 0))))) else (some (false, ([] : List Int), 0, 2)))
theorem dyadic_Neg.c {k : Nat} {a0_0 : Bool} {l0_1 : List Int} {a0_2 : Int} {r : Bool × List Int × Int × Int} (h : dyadic_Neg.f k a0_0 l0_1 a0_2 = some r) : Con Tryd.prog Gw 44 [.ag [.b a0_0, .sl .u64 l0_1, .i .i64 a0_2]] (· = .tu [.ag [.b r.1, .sl .u64 r.2.1, .i .i64 r.2.2.1], .s (.i .i64 r.2.2.2)]) := by
 unfold dyadic_Neg.f at h
 obtain ⟨t720, A1, h⟩ := bnd h
 rcases ite_e h with ⟨c2, h⟩ | ⟨c2, h⟩
 ·obtain ⟨bt721, A3, h⟩ := bnd h
  rcases ite_e h with ⟨c4, h⟩ | ⟨c4, h⟩
  ·have h := si h; subst h
   exact pth Tryd.func44 [.r (.s (.b t720)), .br false, .r (.ag [.b bt721.1, .sl .u64 bt721.2.1, .i .i64 bt721.2.2]), .br false, .br false, .br false, .br false] (fun e => ai (dyadic_Form.c A1) (ai (nt1 c2) (ai (dyadic_twin.c A3) (ai (nt1 c4) (ai (nt1 c4) (ai (nt1 c4) (ai (nt1 c4) e))))))) (by kernel_rfl)
  ·obtain ⟨t726, A5, h⟩ := bnd h
   have h := si h; subst h
   exact pth Tryd.func44 [.r (.s (.b t720)), .br false, .r (.ag [.b bt721.1, .sl .u64 bt721.2.1, .i .i64 bt721.2.2]), .br true, .br true, .r (.s (.b t726)), .br true, .br true] (fun e => ai (dyadic_Form.c A1) (ai (nt1 c2) (ai (dyadic_twin.c A3) (ai (nt0 (z0 c4)) (ai (nt0 (z0 c4)) (ai (dyadic_nought.c A5) (ai (nt0 (z0 c4)) (ai (nt0 (z0 c4)) e)))))))) (by kernel_rfl)
 ·have h := si h; subst h
  exact pth Tryd.func44 [.r (.s (.b t720)), .br true] (fun e => ai (dyadic_Form.c A1) (ai (nt0 (z0 c2)) e)) (by kernel_rfl)
end Go.Proofs.YtelfmddcjlocpaaDoor.PLib
end
