/- math/bits' table as the row's condition gives it; math/bits.TrailingZeros64 by it. Condition: the table is laid. What the rows of these seats share: the door's heap meets the condition on math/bits.deBruijn64tab; how lists of words, dyadics and spans open. No condition beyond the rows' own. The formats' numbers, ranks and neighbours in plain Lean; bit words of signs. No condition. The numbers of a binary format by their sizes. Plain Lean; no program in sight. No condition. Rounding to nearest, ties to even: to whole units, and to the sizes of a format. Plain Lean; no program in sight. No condition. -/
import Derived.Test.YtokoadgahflafaaGreatDoorKSoftFixedGBase
import Derived.Shelf.Spec.TrailingZeros
import Derived.Lib.LaidTab
import Derived.Test.YtokoadgahflafaaGreatDoorRows
import Derived.WalkKit
import Derived.ProofKit
import Derived.OpenShut
import Derived.ShutString
import Derived.ChangeOld
import Derived.Below
import Derived.SizedLaws
import Derived.Deep.Slices
import Derived.Deep.Fields
import Derived.ChangeSame
import Derived.LaidMore
import Derived.Stop.Joined
import Derived.Laws.BitsAllLaws
import Derived.Test.YtokoadgahflafaaGreatDoorKSoftFixedBl
section
namespace Go.Proofs.YtokoadgahflafaaGreatDoor.GTab
open Go.RowKit
structure Tab (w : World) : Prop where mk :: (at' : ∀ j, j < 64 → w.cell? ⟨1, j, none⟩ = some (.int .u8 ((Lib.deBruijn64tab.getD j 0 : Nat) : Int)))
theorem Tab.next {w w' : World} (h : Tab w) (d : Below w.heap.size w w') : Tab w' := by
 have h0 : 1 < w.heap.size := World.block_lt_of_cell? _ _ (h.at' 0 (by decide))
 exact ⟨fun j hj => by rw [d.cell (p := ⟨1, j, none⟩) h0]; exact h.at' j hj⟩
set_option maxRecDepth 100000 in
theorem tz_core (x k idx : Nat) (w : World) (hx0 : ((x : Int) == 0) = false)
  (key : IntKind.u64.wrap (bits BinOp.and IntKind.u64 (x : Int) (IntKind.u64.wrap (-(x : Int))) * 285870213051353865) / 288230376151711744 = (idx : Int))
  (hi : idx < 64) (hk : k < 64) (hcell : w.cell? ⟨1, idx, none⟩ = some (.int .u8 k)) :
  Calls Tryz.prog 131 #[.int .u64 x] w fun e w' => e = .returned (.int .i64 k) ∧ w' = w := by
 go_enter Tryz.func131, Tryz.ntmps131
 go_wp2_with (simp only [key])
 go_ret
 exact ⟨rfl, rfl⟩
theorem tz_any (x : Nat) (hx : x < 18446744073709551616) (hx0 : x ≠ 0) (w : World) (hT : Tab w) :
  Calls Tryz.prog 131 #[.int .u64 x] w fun e w' => e = .returned (.int .i64 ((Lib.ctz 64 x : Nat) : Int)) ∧ w' = w := by
 obtain ⟨hlow, hk⟩ := Lib.lowest_bit 64 x hx0 hx
 obtain ⟨hi, htab⟩ := Lib.deBruijn64_at _ hk
 have hc := hT.at' _ hi
 rw [htab] at hc
 have key := tz64_key x _ hx hx0 hlow
 exact tz_core x _ _ w (by simpa using hx0) key hi hk hc
end Go.Proofs.YtokoadgahflafaaGreatDoor.GTab
end
section
namespace Go.Proofs.YtokoadgahflafaaGreatDoor.Row8
open Go.ChangeShapes Go.WideShapes Go.ChangeAt Go.RowKit Go.Deep Go.Proofs.YtokoadgahflafaaGreatDoorW.PrintWords Go.Proofs.YtokoadgahflafaaGreatDoor.GTab
set_option linter.unusedVariables false
theorem own : ownKnob Tryz.prog.godebug = none := by kernel_rfl
def tabs : List (String × DataW Unit) := [("math/bits.deBruijn64tab", Rows.laid_math_bits_deBruijn64tab)]
theorem door_met (os : Os) (args : Array Value) : laidMetH Tryz.prog tabs ((World.doorLaid Tryz.prog 14 os).forCall (fun _ _ => 0) ⟨#[], args, []⟩).memory :=
 laidMetH_of_parts3 (fuel := 8) (laidMet_of_run' 8 (by kernel_rfl) (by kernel_rfl)) (by kernel_rfl) (by kernel_rfl)
def zs : List Int := Lib.deBruijn64tab.map fun (n : Nat) => (n : Int)
theorem tab_data : (Rows.laid_math_bits_deBruijn64tab : DataW Unit) = Lib.tabData .u8 zs := by rfl
theorem zs_at : ∀ j, j < 64 → zs[j]? = some ((Lib.deBruijn64tab.getD j 0 : Nat) : Int) := by decide +kernel
theorem of_laid {W : World} (h : laidMetH Tryz.prog tabs W) : Tab W := by
 rw [MakeChecks.laidMetH_plain _ _ _ (by kernel_rfl)] at h
 unfold tabs at h
 rw [tab_data] at h
 have t := Lib.tabIs_of_head (g := 1) (t := 192) (e := 5) (n := 64) (by kernel_rfl) (by kernel_rfl) Tryz.underlying192 Tryz.underlying5 (by kernel_rfl) (by kernel_rfl) h
 unfold Lib.TabIs at t
 refine ⟨fun j hj => ?_⟩
 have := World.var?_cell (show Tryz.prog.globalNamed "math/bits.deBruijn64tab" = some 1 by kernel_rfl) t j
 rw [this]
 simp [zs_at j hj]
end Go.Proofs.YtokoadgahflafaaGreatDoor.Row8
end
section
namespace Go.Proofs.YtokoadgahflafaaGreatDoor.BinLaw
open Go.RowKit
structure Fmt where mk :: (sg : Nat) (inf : Nat) (man : Nat) (low : Int) (wd : Nat) (qt : Nat)
end Go.Proofs.YtokoadgahflafaaGreatDoor.BinLaw
end
section
namespace Go.Proofs.YtokoadgahflafaaGreatDoor.Fm8
open Go.Proofs.YtokoadgahflafaaGreatDoor.BinLaw Go.Proofs.YtokoadgahflafaaGreatDoor.Ref
def hdF (F : Fmt) : Nat := F.sg - F.inf
def mgF (F : Fmt) (s : Nat) : Nat := if s / hdF F = 0 then s % hdF F else hdF F + s % hdF F
def dF (F : Fmt) (s : Nat) : Nat := s / hdF F - 1
def nF (F : Fmt) (s : Nat) : Nat := mgF F s * 2^(dF F s)
end Go.Proofs.YtokoadgahflafaaGreatDoor.Fm8
end
section
namespace Go.Proofs.YtokoadgahflafaaGreatDoor.Rnd
open Go.Proofs.YtokoadgahflafaaGreatDoor.BinLaw Go.Proofs.YtokoadgahflafaaGreatDoor.Ref Go.Proofs.YtokoadgahflafaaGreatDoor.Fm8
def nr (V k : Nat) : Nat := V / 2^k + (if 2^k < 2 * (V % 2^k) ∨ (2 * (V % 2^k) = 2^k ∧ V / 2^k % 2 = 1) then 1 else 0)
def rsz (F : Fmt) (g V : Nat) : Nat := min ((max (bl V - F.man) g - g) * hdF F + nr V (max (bl V - F.man) g)) F.inf
def md (F : Fmt) (g s : Nat) : Nat := (nF F s + nF F (s + 1)) * 2^g
end Go.Proofs.YtokoadgahflafaaGreatDoor.Rnd
end
