/- What the rows of these seats share: the door's heap meets the condition on math/bits.deBruijn64tab; how lists of words, dyadics and spans open. No condition beyond the rows' own. -/
import Derived.Test.YtbfahgbhbhnbnaaDoorRows
import Derived.Test.YtbfahgbhbhnbnaaDoorKBinaryMiddlesGTab
import Derived.WalkKit
import Derived.ProofKit
import Derived.OpenShut
import Derived.ShutString
import Derived.ChangeOld
import Derived.Below
import Derived.SizedLaws
import Derived.Deep.Slices
import Derived.Deep.Fields
import Derived.ChangeSame
import Derived.LaidMore
import Derived.Stop.Joined
namespace Go.Proofs.YtbfahgbhbhnbnaaDoor.Row8
open Go.ChangeShapes Go.WideShapes Go.ChangeAt Go.RowKit Go.Deep Go.Proofs.YtbfahgbhbhnbnaaDoorW.PrintWords Go.Proofs.YtbfahgbhbhnbnaaDoor.GTab
set_option linter.unusedVariables false
theorem own : ownKnob Tryd.prog.godebug = none := by kernel_rfl
def tabs : List (String × DataW Unit) := [("math/bits.deBruijn64tab", Rows.laid_math_bits_deBruijn64tab)]
theorem door_met (os : Os) (args : Array Value) : laidMetH Tryd.prog tabs ((World.doorLaid Tryd.prog 14 os).forCall (fun _ _ => 0) ⟨#[], args, []⟩).memory :=
 laidMetH_of_parts3 (fuel := 8) (laidMet_of_run' 8 (by kernel_rfl) (by kernel_rfl)) (by kernel_rfl) (by kernel_rfl)
def zs : List Int := Lib.deBruijn64tab.map fun (n : Nat) => (n : Int)
theorem tab_data : (Rows.laid_math_bits_deBruijn64tab : DataW Unit) = Lib.tabData .u8 zs := by rfl
theorem zs_at : ∀ j, j < 64 → zs[j]? = some ((Lib.deBruijn64tab.getD j 0 : Nat) : Int) := by decide +kernel
theorem of_laid {W : World} (h : laidMetH Tryd.prog tabs W) : Tab W := by
 rw [MakeChecks.laidMetH_plain _ _ _ (by kernel_rfl)] at h
 unfold tabs at h
 rw [tab_data] at h
 have t := Lib.tabIs_of_head (g := 0) (t := 83) (e := 5) (n := 64) (by kernel_rfl) (by kernel_rfl) Tryd.underlying83 Tryd.underlying5 (by kernel_rfl) (by kernel_rfl) h
 unfold Lib.TabIs at t
 refine ⟨fun j hj => ?_⟩
 have := World.var?_cell (show Tryd.prog.globalNamed "math/bits.deBruijn64tab" = some 0 by kernel_rfl) t j
 rw [this]
 simp [zs_at j hj]
end Go.Proofs.YtbfahgbhbhnbnaaDoor.Row8
