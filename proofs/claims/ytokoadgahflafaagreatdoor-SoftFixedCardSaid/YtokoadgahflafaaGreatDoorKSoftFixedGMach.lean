/- Rounding of whole numbers to 53 binary digits (to nearest, ties to even), the exact sums and products of floats, and the model's binary64 words as whole numbers of units 2^-1074. Plain Lean; no program in sight. No condition. The machine's binary64 sums, products and quotients are layer 9's: plain Lean over the model's words. Condition: words. The machine's binary64 quotients and order are layer 9's: plain Lean over the model's words. Condition: words. What SoftMachine reaches: the machine's own operation beside layer 9's. Condition: words. -/
import Ieee.Arith
import Derived.Laws.FloatBits
import Derived.Test.YtokoadgahflafaaGreatDoorKSoftFixedSf4
import Derived.Test.YtokoadgahflafaaGreatDoorKSoftFixedRnd
import Derived.Test.YtokoadgahflafaaGreatDoorKSoftFixedPxK
import Derived.Test.YtokoadgahflafaaGreatDoorKSoftFixedPxTz
import Derived.Test.YtokoadgahflafaaGreatDoorKSoftFixedPxMul
import Derived.Test.YtokoadgahflafaaGreatDoorKSoftFixedPxDw
import Derived.Test.YtokoadgahflafaaGreatDoorKSoftFixedPxR0
import Derived.Test.YtokoadgahflafaaGreatDoorKSoftFixedPxS0
import Derived.Test.YtokoadgahflafaaGreatDoorKSoftFixedPxOp
import Derived.Test.YtokoadgahflafaaGreatDoorKSoftFixedPxL0
import Derived.Test.YtokoadgahflafaaGreatDoorKSoftFixedPxL2
import Derived.Test.YtokoadgahflafaaGreatDoorKSoftFixedPxL3
import Derived.Test.YtokoadgahflafaaGreatDoorKSoftFixedPxL4
import Derived.Test.YtokoadgahflafaaGreatDoorKSoftFixedPxL1
import Derived.WalkKit
import Derived.WalkLawsBesides
import Derived.Laws.Externs
import Derived.Deep.Draws
import Derived.Test.YtokoadgahflafaaGreatDoorKSoftFixedPxBr
import Derived.OwnWalk
import Derived.Tactics2
section
namespace Fl
theorem pw (k : Nat) : 0 < (2:Nat)^k := Nat.two_pow_pos k
end Fl
namespace Fl
def hx (g : Nat) (a : Int) : Nat := max (a.natAbs.log2 + 1 - 26) g
end Fl
namespace Fl
open Ieee
def sz (w : Nat) : Nat := w % 2^63
def ng (w : Nat) : Bool := w / 2^63 % 2 == 1
def mg (r : Nat) : Nat := if r < 2^52 then r else (2^52 + r % 2^52) * 2^(r / 2^52 - 1)
def U (w : Nat) : Int := if ng w then -(mg (sz w) : Nat) else (mg (sz w) : Nat)
end Fl
namespace Fl
open Ieee
noncomputable def TE : Nat := Classical.choose (⟨2045, rfl⟩ : ∃ n : Nat, n = 2045)
noncomputable def top (g : Nat) : Nat := (2^53 - 1) * 2^(TE + g)
end Fl
end
section
set_option linter.unusedVariables false
namespace Go.Proofs.YtokoadgahflafaaGreatDoor.Mach
open Go.RowKit Go.Proofs.YtokoadgahflafaaGreatDoor.Ref Go.Proofs.YtokoadgahflafaaGreatDoor.Rp3 Go.Proofs.YtokoadgahflafaaGreatDoor.Rp7 Go.Proofs.YtokoadgahflafaaGreatDoor.BinLaw Go.Proofs.YtokoadgahflafaaGreatDoor.Fm8 Go.Proofs.YtokoadgahflafaaGreatDoor.Rnd Go.Proofs.YtokoadgahflafaaGreatDoor.Sf1
open Ieee Fl
theorem sv_lt {n : Bool} {m : Nat} (h : m ≠ 0) : decide (sv n m < 0) = n := by
 cases n
 ·exact decide_eq_false (by show ¬ (m : Int) < 0; omega)
 ·exact decide_eq_true (by show -(m : Int) < 0; omega)
end Go.Proofs.YtokoadgahflafaaGreatDoor.Mach
end
section
set_option linter.unusedVariables false
namespace Go.Proofs.YtokoadgahflafaaGreatDoor.Mach
open Go.RowKit Go.Proofs.YtokoadgahflafaaGreatDoor.Ref Go.Proofs.YtokoadgahflafaaGreatDoor.Rp3 Go.Proofs.YtokoadgahflafaaGreatDoor.Rp4 Go.Proofs.YtokoadgahflafaaGreatDoor.Rp7 Go.Proofs.YtokoadgahflafaaGreatDoor.BinLaw Go.Proofs.YtokoadgahflafaaGreatDoor.Fm8 Go.Proofs.YtokoadgahflafaaGreatDoor.Rnd Go.Proofs.YtokoadgahflafaaGreatDoor.Sf1
open Ieee Fl
theorem ps {s : Bool} {m e : Nat} (m0 : m ≠ 0) : decide (sv s (m * 2^e) < 0) = s := sv_lt (Nat.mul_ne_zero m0 (Nat.pos_iff_ne_zero.1 (Nat.two_pow_pos _)))
end Go.Proofs.YtokoadgahflafaaGreatDoor.Mach
end
section
set_option linter.unusedVariables false
namespace Go.Proofs.YtokoadgahflafaaGreatDoor.GMach
open Go Go.RowKit Go.Proofs.YtokoadgahflafaaGreatDoorW.PrintWords Go.Proofs.YtokoadgahflafaaGreatDoorW.PrintMore Go.Proofs.YtokoadgahflafaaGreatDoor.Px Go.Proofs.YtokoadgahflafaaGreatDoor.PLib Go.Proofs.YtokoadgahflafaaGreatDoor.Mach Go.Proofs.YtokoadgahflafaaGreatDoor.Rp4 Go.Proofs.YtokoadgahflafaaGreatDoor.Sf1 Go.Proofs.YtokoadgahflafaaGreatDoor.Ref
open Ieee
theorem two_call {f : FuncId} {args : List PV} {vs : List Value} {k1 k2 : IntKind} {x s : Int} (c : Con Tryz.prog Gw f args (· = .tu [.s (.i k1 x), .s (.i k2 s)])) (w : World) (gw : Gw w) (hv : All2 (RepV w (fun _ => False) none') args vs) :
  Calls Tryz.prog f vs.toArray w fun e w' => e = .returned (.tuple #[.int k1 x, .int k2 s]) ∧ Below w.heap.size w w' := by
 refine (c.2 w (fun _ => False) vs gw (fun _ h => h.elim) hv).mono fun e w' ⟨v, x, he, hx, hr, hb⟩ => ?_
 subst hx
 obtain ⟨vs, rfl, hv⟩ := hr
 cases hv with
 | cons a1 hv =>
 cases hv with
 | cons a2 hv =>
 cases hv
 obtain rfl := a1
 obtain rfl := a2
 exact ⟨he, hb⟩
theorem s_awake (w : World) (gw : Gw w) : Calls Tryz.prog 14 #[] w fun e w' => e = .returned (.bool true) ∧ Below w.heap.size w w' := by
 have h : gnomonlaw09_awake.f 120 = some true := by decide +kernel
 exact run_t (gnomonlaw09_awake.c h) gw (vs := []) .nil
end Go.Proofs.YtokoadgahflafaaGreatDoor.GMach
end
