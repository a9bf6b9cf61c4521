/- The root of a rounded square is the number again: the plain law of SoftRootOfSquare. Plain Lean over the functions. Condition: words. Sums, products, quotients and roots keep the order: the plain law of SoftOrders. Plain Lean over the functions. Condition: words. -/
import Derived.Test.YtokoadgahflafaaGreatDoorKSoftErrorsSf6
import Derived.Test.YtokoadgahflafaaGreatDoorKSoftErrorsRnd
import Derived.Test.YtokoadgahflafaaGreatDoorKSoftErrorsPxBr
import Derived.Test.YtokoadgahflafaaGreatDoorKSoftErrorsGM
import Derived.Test.YtokoadgahflafaaGreatDoorKSoftErrorsPxM0
import Derived.Test.YtokoadgahflafaaGreatDoorKSoftErrorsPxOp
import Derived.Test.YtokoadgahflafaaGreatDoorKSoftErrorsPxL0
import Derived.Test.YtokoadgahflafaaGreatDoorKSoftErrorsPxL2
import Derived.Test.YtokoadgahflafaaGreatDoorKSoftErrorsPxL3
import Derived.Test.YtokoadgahflafaaGreatDoorKSoftErrorsPxL4
import Derived.Test.YtokoadgahflafaaGreatDoorKSoftErrorsPxL1
import Derived.Test.YtokoadgahflafaaGreatDoorProg
import Derived.Test.YtokoadgahflafaaGreatDoorKSoftErrorsGiven
import Derived.Below
import Derived.Deep.Draws
import Derived.Deep.AppendLies
import Derived.Maps.AppendAt
import Derived.OwnWalk
import Derived.Laws.BytesArg
import Derived.Laws.MakeOwn
import Derived.Laws.OwnMore
import Derived.Deep.OwnRows
import Derived.Tactics
import Derived.Lib.ConvBytes
import Derived.Laws.Slices
import Derived.WalkKit
import Derived.KernelRfl
import Derived.RowKit3
import Derived.Deep.LoopGhost
import Derived.Deep.QuietTactic
import Derived.BigQuiet
import Derived.WideLaws
import Derived.Deep.DeepCutAuto
import Derived.Deep.CutBlock
import Derived.Deep.RegionHeld3
import Derived.Laws.Rows
import Derived.Lib.AppendStr
import Derived.ArgAppend
import Derived.Laws.IdiomCopy
import Derived.OrdersHeld
import Derived.Laws.BitsLemmas
import Derived.RowKit
import Derived.Test.YtokoadgahflafaaGreatDoorKSoftErrorsWWords
import Derived.Test.YtokoadgahflafaaGreatDoorKSoftErrorsWLast
import Derived.Test.YtokoadgahflafaaGreatDoorKSoftErrorsWGuard
import Derived.Test.YtokoadgahflafaaGreatDoorKSoftErrorsNum
import Derived.Laws.StructEq
import Derived.Test.YtokoadgahflafaaGreatDoorKSoftErrorsPLenx1
section
set_option linter.unusedVariables false
namespace Go.Proofs.YtokoadgahflafaaGreatDoor.SoftRootOfSquareL
open Go.RowKit Go.Proofs.YtokoadgahflafaaGreatDoorW.PrintWords Go.Proofs.YtokoadgahflafaaGreatDoorW.PrintMore Go.Proofs.YtokoadgahflafaaGreatDoor.Num Go.Proofs.YtokoadgahflafaaGreatDoor.PLib Go.Proofs.YtokoadgahflafaaGreatDoor.Ref Go.Proofs.YtokoadgahflafaaGreatDoor.GTh Go.Proofs.YtokoadgahflafaaGreatDoor.Given Go.Proofs.YtokoadgahflafaaGreatDoor.Rp1 Go.Proofs.YtokoadgahflafaaGreatDoor.Rp2 Go.Proofs.YtokoadgahflafaaGreatDoor.Rp3 Go.Proofs.YtokoadgahflafaaGreatDoor.Rp4 Go.Proofs.YtokoadgahflafaaGreatDoor.Rp5 Go.Proofs.YtokoadgahflafaaGreatDoor.Rp7 Go.Proofs.YtokoadgahflafaaGreatDoor.BinLaw Go.Proofs.YtokoadgahflafaaGreatDoor.Fm8 Go.Proofs.YtokoadgahflafaaGreatDoor.Rnd Go.Proofs.YtokoadgahflafaaGreatDoor.Px Go.Proofs.YtokoadgahflafaaGreatDoor.Sf1 Go.Proofs.YtokoadgahflafaaGreatDoor.Sf2 Go.Proofs.YtokoadgahflafaaGreatDoor.Sf3 Go.Proofs.YtokoadgahflafaaGreatDoor.Sf4 Go.Proofs.YtokoadgahflafaaGreatDoor.Sf6
theorem awake_ev : Ev (fun k => gnomonlaw09_awake.f k) true := Ev.of (fun k => gnomonlaw09_awake.mono k) (k := 120) (by decide +kernel)
theorem sizes_f {f : Int} {F : Fmt} (h : Fm f F) (P Ee G Q : Int) (a : Nat) (ha : a < 18446744073709551616) : gnomonlaw09_sizes.f ((F.sg : Nat) : Int) P Ee G ((F.inf : Nat) : Int) Q (a : Int) = some (((a % (2 * F.sg) : Nat) : Int), decide (a % (2 * F.sg) % F.sg < F.inf)) := by
 have hz := h.sz
 have e : Go.bits .and .u64 (a : Int) (IntKind.u64.wrap ((IntKind.u64.wrap (2 * ((F.sg : Nat) : Int))) - 1)) = ((a % (2 * F.sg) : Nat) : Int) := by
  rcases h with ⟨_, rfl⟩ | ⟨_, rfl⟩
  ·rw [show IntKind.u64.wrap ((IntKind.u64.wrap (2 * ((fS.sg : Nat) : Int))) - 1) = ((4294967295 : Nat) : Int) by decide, u64_and_nat a 4294967295 ha (by decide)]
   have := Nat.and_two_pow_sub_one_eq_mod a 32
   rw [show (2 : Nat)^32 - 1 = 4294967295 by decide, show (2 : Nat)^32 = 2 * fS.sg by decide] at this
   rw [this]
  ·rw [show IntKind.u64.wrap ((IntKind.u64.wrap (2 * ((fD.sg : Nat) : Int))) - 1) = ((18446744073709551615 : Nat) : Int) by decide, u64_and_nat a 18446744073709551615 ha (by decide)]
   have := Nat.and_two_pow_sub_one_eq_mod a 64
   rw [show (2 : Nat)^64 - 1 = 18446744073709551615 by decide, show (2 : Nat)^64 = 2 * fD.sg by decide] at this
   rw [this]
 unfold gnomonlaw09_sizes.f
 rw [if_neg (by omega), e, show Int.tmod ((a % (2 * F.sg) : Nat) : Int) ((F.sg : Nat) : Int) = ((a % (2 * F.sg) % F.sg : Nat) : Int) from (Int.ofNat_tmod _ _).symm]
 have ed : decide (((a % (2 * F.sg) % F.sg : Nat) : Int) < ((F.inf : Nat) : Int)) = decide (a % (2 * F.sg) % F.sg < F.inf) := decide_eq_decide.2 ⟨fun q => by omega, fun q => by omega⟩
 rw [ed]
end Go.Proofs.YtokoadgahflafaaGreatDoor.SoftRootOfSquareL
end
section
set_option linter.unusedVariables false
namespace Go.Proofs.YtokoadgahflafaaGreatDoor.SoftOrdersL
open Go.RowKit Go.Proofs.YtokoadgahflafaaGreatDoorW.PrintWords Go.Proofs.YtokoadgahflafaaGreatDoorW.PrintMore Go.Proofs.YtokoadgahflafaaGreatDoor.Num Go.Proofs.YtokoadgahflafaaGreatDoor.PLib Go.Proofs.YtokoadgahflafaaGreatDoor.Ref Go.Proofs.YtokoadgahflafaaGreatDoor.GTh Go.Proofs.YtokoadgahflafaaGreatDoor.Given Go.Proofs.YtokoadgahflafaaGreatDoor.Rp1 Go.Proofs.YtokoadgahflafaaGreatDoor.Rp2 Go.Proofs.YtokoadgahflafaaGreatDoor.Rp3 Go.Proofs.YtokoadgahflafaaGreatDoor.Rp4 Go.Proofs.YtokoadgahflafaaGreatDoor.Rp5 Go.Proofs.YtokoadgahflafaaGreatDoor.Rp7 Go.Proofs.YtokoadgahflafaaGreatDoor.BinLaw Go.Proofs.YtokoadgahflafaaGreatDoor.Fm8 Go.Proofs.YtokoadgahflafaaGreatDoor.Rnd Go.Proofs.YtokoadgahflafaaGreatDoor.Px Go.Proofs.YtokoadgahflafaaGreatDoor.Sf1 Go.Proofs.YtokoadgahflafaaGreatDoor.Sf2 Go.Proofs.YtokoadgahflafaaGreatDoor.Sf3 Go.Proofs.YtokoadgahflafaaGreatDoor.Sf4 Go.Proofs.YtokoadgahflafaaGreatDoor.Sf6 Go.Proofs.YtokoadgahflafaaGreatDoor.SoftRootOfSquareL
def valV : Vl → Int
 | .num V => V
 | _ => 0
def finV : Vl → Prop
 | .num V => V ≠ 0
 | .nou _ => True
 | _ => False
structure Fn (F : Fmt) (p : Nat) (r : Int) : Prop where mk :: (lt : p < 2 * F.sg) (num : p % F.sg ≤ F.inf) (rk : rkB F p = r)
theorem fin_plus {v w : Vl} (hv : finV v) (hw : finV w) : finV (plusV v w) ∧ valV (plusV v w) = valV v + valV w := by
 cases v with
 | nan => exact hv.elim
 | inf n => exact hv.elim
 | nou n =>
  cases w with
  | nan => exact hw.elim
  | inf n => exact hw.elim
  | nou m => exact ⟨trivial, rfl⟩
  | num W => exact ⟨hw, (Int.zero_add W).symm⟩
 | num V =>
  cases w with
  | nan => exact hw.elim
  | inf n => exact hw.elim
  | nou m => exact ⟨hv, (Int.add_zero V).symm⟩
  | num W =>
   show finV (if V + W = 0 then .nou false else .num (V + W)) ∧ valV (if V + W = 0 then .nou false else .num (V + W)) = V + W
   by_cases c : V + W = 0
   ·rw [if_pos c, c]; exact ⟨trivial, rfl⟩
   ·rw [if_neg c]; exact ⟨c, rfl⟩
theorem fin_turn {v : Vl} (hv : finV v) : finV (turnV v) ∧ valV (turnV v) = -valV v := by
 cases v with
 | nan => exact hv.elim
 | inf n => exact hv.elim
 | nou n => exact ⟨trivial, rfl⟩
 | num V => have hv : V ≠ 0 := hv; exact ⟨show -V ≠ 0 by omega, rfl⟩
theorem fin_times {v w : Vl} (hv : finV v) (hw : finV w) : finV (timesV v w) ∧ valV (timesV v w) = valV v * valV w := by
 cases v with
 | nan => exact hv.elim
 | inf n => exact hv.elim
 | nou n =>
  cases w with
  | nan => exact hw.elim
  | inf n => exact hw.elim
  | nou m => exact ⟨trivial, rfl⟩
  | num W => exact ⟨trivial, (Int.zero_mul W).symm⟩
 | num V =>
  cases w with
  | nan => exact hw.elim
  | inf n => exact hw.elim
  | nou m => exact ⟨trivial, (Int.mul_zero V).symm⟩
  | num W => exact ⟨Int.mul_ne_zero hv hw, rfl⟩
theorem fin_rd {f : Int} {F : Fmt} (h : Fm f F) {b : Nat} (hb : b % F.sg < F.inf) : finV (rdB F b) ∧ valV (rdB F b) = sv (decide (F.sg ≤ b)) (nF F (b % F.sg)) := by
 unfold rdB rdV
 by_cases c : b % F.sg = 0
 ·rw [if_pos c, c, nF_zero, sv_zero]; exact ⟨trivial, rfl⟩
 ·rw [if_neg c, if_pos hb]; exact ⟨sv_ne (nF_ne h c), rfl⟩
theorem cmp_le {f : Int} {F : Fmt} (h : Fm f F) {p q : Nat} {r t : Int} (hp : Fn F p r) (hq : Fn F q t) (hle : r ≤ t) : ∃ d : Int, Ev (fun k => soft_Compare.f k f (p : Int) (q : Int)) (d, 0) ∧ (d = -1 ∨ d = 0) := by
 refine ⟨_, compare_ev h hp.lt hq.lt, ?_⟩
 unfold cmpB
 have n1 := hp.num
 have n2 := hq.num
 rw [if_neg (by omega), hp.rk, hq.rk]
 unfold cmZ
 by_cases c : r < t
 ·rw [if_pos c]; exact .inl rfl
 ·rw [if_neg c, if_neg (by omega)]; exact .inr rfl
theorem cmp_ev {f : Int} {F : Fmt} (h : Fm f F) {p q : Nat} {r t : Int} (hp : Fn F p r) (hq : Fn F q t) (hle : r ≤ t) {G : Nat → Option Bool} (hG : Ev G true) :
  Ev (fun k => (soft_Compare.f k f (p : Int) (q : Int)).bind fun bt9 => (if bt9.2 = 0 then (if bt9.1 = (-1) then G k else (if bt9.1 = 0 then G k else (some false))) else (some false))) true := by
 obtain ⟨d, e, c⟩ := cmp_le h hp hq hle
 refine Ev.bind e (Ev.congr (fun k => if_pos rfl) ?_)
 dsimp only
 rcases c with rfl | rfl
 ·exact Ev.congr (fun k => if_pos rfl) hG
 ·exact Ev.congr (fun k => if_neg (by decide)) (Ev.congr (fun k => if_pos rfl) hG)
end Go.Proofs.YtokoadgahflafaaGreatDoor.SoftOrdersL
end
section
namespace Go.Proofs.YtokoadgahflafaaGreatDoor.PRef
open Go.RowKit Go.Proofs.YtokoadgahflafaaGreatDoorW.PrintWords Go.Proofs.YtokoadgahflafaaGreatDoorW.PrintLast Go.Proofs.YtokoadgahflafaaGreatDoorW.PrintMore Go.Proofs.YtokoadgahflafaaGreatDoor.Given Go.Proofs.YtokoadgahflafaaGreatDoor.GTab
attribute [local go_sem] max2_int min2_int max_two min_two max_three min_three max_four min_four   -- for this text's walks alone
set_option linter.unusedVariables false
set_option linter.unusedSimpArgs false
def errW : Option Int → Value
 | none => .nilIface
 | some c => .iface 0 (.int .i64 c)
theorem errW_none : errW none = .nilIface := rfl
theorem errW_some (c : Int) : errW (some c) = .iface 0 (.int .i64 c) := rfl
theorem info24 : (Tryz.prog.info? 24).map (fun i => (i.zero, i.size, i.bytes)) = some (some (.int .u64 0), 1, 8) := by kernel_rfl
theorem info67 : (Tryz.prog.info? 67).map (fun i => (i.zero, i.size, i.bytes)) = some (some (.int .u32 0), 1, 4) := by kernel_rfl
end Go.Proofs.YtokoadgahflafaaGreatDoor.PRef
end
