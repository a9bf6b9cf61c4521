/- What every walk over rows of limbs wants: blocks of the call's own, the element's type, math/bits.Len64. Condition: words below 2^64. math/bits' table as the row's condition gives it; math/bits.TrailingZeros64 by it. Condition: the table is laid. What the rows of these seats share: the door's heap meets the condition on math/bits.deBruijn64tab; how lists of words, dyadics and spans open. No condition beyond the rows' own. The formats' numbers, ranks and neighbours in plain Lean; bit words of signs. No condition. -/
import Derived.Test.YtapikmfckpgjoaaGreatDoorKDdFormsNum
import Derived.Test.YtapikmfckpgjoaaGreatDoorKDdFormsWGuard
import Derived.Test.YtapikmfckpgjoaaGreatDoorKDdFormsPLenx1
import Derived.Test.YtapikmfckpgjoaaGreatDoorKDdFormsWLast
import Derived.WalkLawsBesides
import Derived.Laws.Externs
import Derived.Laws.BitsAllLaws
import Derived.Deep.Draws
import Derived.Below
import Derived.Handy
import Derived.Deep.RegionHeld3
import Derived.Lib.Hide
import Derived.OwnWalk
import Derived.Laws.OwnMore
import Derived.Shelf.Spec.TrailingZeros
import Derived.Lib.LaidTab
import Derived.Test.YtapikmfckpgjoaaGreatDoorRows
import Derived.WalkKit
import Derived.ProofKit
import Derived.OpenShut
import Derived.ShutString
import Derived.ChangeOld
import Derived.SizedLaws
import Derived.Deep.Slices
import Derived.Deep.Fields
import Derived.ChangeSame
import Derived.LaidMore
import Derived.Stop.Joined
section
namespace Go.Proofs.YtapikmfckpgjoaaGreatDoor.GBase
open Go.RowKit Go.Proofs.YtapikmfckpgjoaaGreatDoorW.PrintWords Go.Proofs.YtapikmfckpgjoaaGreatDoorW.PrintMore Go.Proofs.YtapikmfckpgjoaaGreatDoor.Num Go.Proofs.YtapikmfckpgjoaaGreatDoor.PLen Go.Proofs.YtapikmfckpgjoaaGreatDoor.Ref
theorem box (w : World) (o : Obj) : Below w.heap.size w (w.alloc o) := (Below.refl _ _).alloc (Nat.le_refl _) _
theorem on {W w w' : World} (h : Below W.heap.size W w) (k : Below w.heap.size w w') : Below W.heap.size W w' := h.trans (k.mono h.size)
theorem u64_info : (Tryz.prog.info? 26).map (fun i => (i.zero, i.size, i.bytes)) = some (some (.int .u64 0), 1, 8) := by kernel_rfl
theorem eq_nil_1 (a : Addr) (n c : Nat) (w : World) : Sem.run Tryz.prog (binOp BinOp.eql 46 (Value.slice (some a) n c) (Value.slice none 0 0)) w = .ok (.bool false) w := by kernel_rfl
theorem tab8_at : ∀ j : Fin 256, bt tab8 (j.val : Int) = ((bl j.val : Nat) : Int) := by decide +kernel
theorem j1_ev (x a : Nat) (hx : x < 65536) (ha : a ≤ 48) : Ev (fun k => bits_Len64.j1 k (x : Int) (a : Int)) (((a + bl x : Nat) : Int)) := by
 have hb : bl x ≤ 16 := bl_le_of_lt (k := 16) hx
 by_cases c : 256 ≤ x
 ·have e1 : ((x : Int) / 256) % 256 = ((x / 256 : Nat) : Int) := by omega
  have ht := tab8_at ⟨x / 256, by omega⟩
  have hs := bl_shift x 8 (by show x / 256 ≠ 0; omega)
  have hs' : bl x = 8 + bl (x / 256) := hs
  refine Ev.step (f := fun _ => some (((a + bl x : Nat) : Int))) (fun k => ?_) (Ev.now _)
  rw [bits_Len64.j1, if_pos (by omega), e1, if_pos (by omega), if_pos (by omega)]
  have ht' : bt tab8 ((x / 256 : Nat) : Int) = ((bl (x / 256) : Nat) : Int) := ht
  rw [ht', hs', w64 (x := (a : Int) + 8) (by omega) (by omega), w64 (x := ((bl (x / 256) : Nat) : Int)) (by omega) (by omega), w64 (by omega) (by omega)]
  exact congrArg some (by omega)
 ·have e1 : (x : Int) % 256 = (x : Int) := by omega
  have ht : bt tab8 (x : Int) = ((bl x : Nat) : Int) := tab8_at ⟨x, by omega⟩
  refine Ev.step (f := fun _ => some (((a + bl x : Nat) : Int))) (fun k => ?_) (Ev.now _)
  rw [bits_Len64.j1, if_neg (by omega), e1, if_pos (by omega), if_pos (by omega), ht, w64 (x := ((bl x : Nat) : Int)) (by omega) (by omega), w64 (by omega) (by omega)]
  exact congrArg some (by omega)
theorem j0_ev (x a : Nat) (hx : x < 4294967296) (ha : a ≤ 32) : Ev (fun k => bits_Len64.j0 k (x : Int) (a : Int)) (((a + bl x : Nat) : Int)) := by
 by_cases c : 65536 ≤ x
 ·have hs : bl x = 16 + bl (x / 65536) := bl_shift x 16 (by show x / 65536 ≠ 0; omega)
  have h := j1_ev (x / 65536) (a + 16) (by omega) (by omega)
  refine Ev.step (f := fun k => bits_Len64.j1 k ((x / 65536 : Nat) : Int) ((a + 16 : Nat) : Int)) (fun k => ?_) ?_
  ·rw [bits_Len64.j0, if_pos (by omega), w64 (by omega) (by omega)]
   have e1 : (x : Int) / 65536 = ((x / 65536 : Nat) : Int) := by omega
   have e2 : (a : Int) + 16 = ((a + 16 : Nat) : Int) := by omega
   rw [e1, e2]
  ·rw [hs, show a + (16 + bl (x / 65536)) = a + 16 + bl (x / 65536) by omega]
   exact h
 ·refine Ev.step (f := fun k => bits_Len64.j1 k (x : Int) (a : Int)) (fun k => by rw [bits_Len64.j0, if_neg (by omega)]) (j1_ev x a (by omega) (by omega))
theorem len_ev (x : Nat) (hx : x < 18446744073709551616) : Ev (fun k => bits_Len64.f k (x : Int)) ((bl x : Nat) : Int) := by
 unfold bits_Len64.f
 by_cases c : 4294967296 ≤ x
 ·have hs : bl x = 32 + bl (x / 4294967296) := bl_shift x 32 (by show x / 4294967296 ≠ 0; omega)
  refine Ev.congr (fun k => if_pos (by omega)) ?_
  rw [hs]
  exact j0_ev (x / 4294967296) 32 (by omega) (by omega)
 ·refine Ev.congr (fun k => if_neg (by omega)) ?_
  have h := j0_ev x 0 (by omega) (by omega)
  rw [Nat.zero_add] at h
  exact h
end Go.Proofs.YtapikmfckpgjoaaGreatDoor.GBase
end
section
namespace Go.Proofs.YtapikmfckpgjoaaGreatDoor.GTab
open Go.RowKit
structure Tab (w : World) : Prop where mk :: (at' : ∀ j, j < 64 → w.cell? ⟨1, j, none⟩ = some (.int .u8 ((Lib.deBruijn64tab.getD j 0 : Nat) : Int)))
theorem Tab.next {w w' : World} (h : Tab w) (d : Below w.heap.size w w') : Tab w' := by
 have h0 : 1 < w.heap.size := World.block_lt_of_cell? _ _ (h.at' 0 (by decide))
 exact ⟨fun j hj => by rw [d.cell (p := ⟨1, j, none⟩) h0]; exact h.at' j hj⟩
set_option maxRecDepth 100000 in
theorem tz_core (x k idx : Nat) (w : World) (hx0 : ((x : Int) == 0) = false)
  (key : IntKind.u64.wrap (bits BinOp.and IntKind.u64 (x : Int) (IntKind.u64.wrap (-(x : Int))) * 285870213051353865) / 288230376151711744 = (idx : Int))
  (hi : idx < 64) (hk : k < 64) (hcell : w.cell? ⟨1, idx, none⟩ = some (.int .u8 k)) :
  Calls Tryz.prog 112 #[.int .u64 x] w fun e w' => e = .returned (.int .i64 k) ∧ w' = w := by
 go_enter Tryz.func112, Tryz.ntmps112
 go_wp2_with (simp only [key])
 go_ret
 exact ⟨rfl, rfl⟩
theorem tz_any (x : Nat) (hx : x < 18446744073709551616) (hx0 : x ≠ 0) (w : World) (hT : Tab w) :
  Calls Tryz.prog 112 #[.int .u64 x] w fun e w' => e = .returned (.int .i64 ((Lib.ctz 64 x : Nat) : Int)) ∧ w' = w := by
 obtain ⟨hlow, hk⟩ := Lib.lowest_bit 64 x hx0 hx
 obtain ⟨hi, htab⟩ := Lib.deBruijn64_at _ hk
 have hc := hT.at' _ hi
 rw [htab] at hc
 have key := tz64_key x _ hx hx0 hlow
 exact tz_core x _ _ w (by simpa using hx0) key hi hk hc
end Go.Proofs.YtapikmfckpgjoaaGreatDoor.GTab
end
section
namespace Go.Proofs.YtapikmfckpgjoaaGreatDoor.Row8
open Go.ChangeShapes Go.WideShapes Go.ChangeAt Go.RowKit Go.Deep Go.Proofs.YtapikmfckpgjoaaGreatDoorW.PrintWords Go.Proofs.YtapikmfckpgjoaaGreatDoor.GTab
set_option linter.unusedVariables false
theorem own : ownKnob Tryz.prog.godebug = none := by kernel_rfl
theorem laidOut : laidOutB Tryz.prog = true := by kernel_rfl
def tabs : List (String × DataW Unit) := [("math/bits.deBruijn64tab", Rows.laid_math_bits_deBruijn64tab)]
theorem door_met (os : Os) (args : Array Value) : laidMetH Tryz.prog tabs ((World.doorLaid Tryz.prog 14 os).forCall (fun _ _ => 0) ⟨#[], args, []⟩).memory :=
 laidMetH_of_parts3 (fuel := 8) (laidMet_of_run' 8 (by kernel_rfl) (by kernel_rfl)) (by kernel_rfl) (by kernel_rfl)
def zs : List Int := Lib.deBruijn64tab.map fun (n : Nat) => (n : Int)
theorem tab_data : (Rows.laid_math_bits_deBruijn64tab : DataW Unit) = Lib.tabData .u8 zs := by rfl
theorem zs_at : ∀ j, j < 64 → zs[j]? = some ((Lib.deBruijn64tab.getD j 0 : Nat) : Int) := by decide +kernel
theorem of_laid {W : World} (h : laidMetH Tryz.prog tabs W) : Tab W := by
 rw [MakeChecks.laidMetH_plain _ _ _ (by kernel_rfl)] at h
 unfold tabs at h
 rw [tab_data] at h
 have t := Lib.tabIs_of_head (g := 1) (t := 149) (e := 5) (n := 64) (by kernel_rfl) (by kernel_rfl) Tryz.underlying149 Tryz.underlying5 (by kernel_rfl) (by kernel_rfl) h
 unfold Lib.TabIs at t
 refine ⟨fun j hj => ?_⟩
 have := World.var?_cell (show Tryz.prog.globalNamed "math/bits.deBruijn64tab" = some 1 by kernel_rfl) t j
 rw [this]
 simp [zs_at j hj]
end Go.Proofs.YtapikmfckpgjoaaGreatDoor.Row8
end
section
namespace Go.Proofs.YtapikmfckpgjoaaGreatDoor.BinLaw
open Go.RowKit
structure Fmt where mk :: (sg : Nat) (inf : Nat) (man : Nat) (low : Int) (wd : Nat) (qt : Nat)
def fS : Fmt := ⟨2147483648, 2139095040, 24, -149, 32, 2143289345⟩
def fD : Fmt := ⟨9223372036854775808, 9218868437227405312, 53, -1074, 64, 9221120237041090561⟩
theorem drop_bit (k b m : Nat) (hm : m % 2^k = 2^k - 1) (hb : b / 2^k &&& m / 2^k = 0) : b &&& m = b % 2^k := by
 have h1 : (b &&& m) % 2^k = b % 2^k := by
  rw [Nat.and_mod_two_pow, hm, Nat.and_two_pow_sub_one_eq_mod, Nat.mod_mod]
 have h2 : (b &&& m) / 2^k = 0 := by rw [Nat.and_div_two_pow]; exact hb
 have h3 := Nat.div_add_mod (b &&& m) (2^k)
 rw [h1, h2, Nat.mul_zero, Nat.zero_add] at h3
 exact h3.symm
theorem one_of {k b : Nat} (hb : b < 2 * 2^k) : b / 2^k = 0 ∨ b / 2^k = 1 := by
 have : b / 2^k < 2 := Nat.div_lt_of_lt_mul (by rw [Nat.mul_comm]; exact hb)
 generalize b / 2^k = q at this
 omega
def IsF (F : Fmt) : Prop := F = fS ∨ F = fD
theorem andNot_sg {F : Fmt} (hF : IsF F) {b : Nat} (hb : b < 2 * F.sg) : bits .andNot .u64 (b : Int) ((F.sg : Nat) : Int) = ((b % F.sg : Nat) : Int) := by
 rcases hF with rfl | rfl
 ·have hb' : b < 4294967296 := hb
  have h := u64_andNot_nat b 2147483648 (by omega) (by decide)
  rw [drop_bit 31 b _ (by decide) (by rcases one_of (k := 31) (b := b) (by omega) with h | h <;> rw [h] <;> decide)] at h
  exact h
 ·have hb' : b < 18446744073709551616 := hb
  have h := u64_andNot_nat b 9223372036854775808 (by omega) (by decide)
  rw [drop_bit 63 b _ (by decide) (by rcases one_of (k := 63) (b := b) (by omega) with h | h <;> rw [h] <;> decide)] at h
  exact h
theorem and_bit (k b : Nat) (hb : b < 2 * 2^k) : b &&& 2^k = if 2^k ≤ b then 2^k else 0 := by
 rw [nat_bit]
 by_cases h : 2^k ≤ b
 ·rw [if_pos h]
  have : b / 2^k = 1 := by
   have := Nat.div_pos h (Nat.two_pow_pos k)
   rcases one_of hb with h | h <;> omega
  rw [this, Nat.one_mod, Nat.one_mul]
 ·rw [if_neg h, Nat.div_eq_of_lt (by omega), Nat.zero_mod, Nat.zero_mul]
theorem and_sg {F : Fmt} (hF : IsF F) {b : Nat} (hb : b < 2 * F.sg) : (bits .and .u64 (b : Int) ((F.sg : Nat) : Int) != 0) = decide (F.sg ≤ b) := by
 rcases hF with rfl | rfl
 ·have hb' : b < 4294967296 := hb
  have e : fS.sg = 2147483648 := rfl
  have a := and_bit 31 b (by omega)
  rw [show (2 : Nat)^31 = 2147483648 from by decide] at a
  rw [e, u64_and_nat b 2147483648 (by omega) (by decide), a]
  by_cases c : 2147483648 ≤ b
  ·rw [if_pos c, decide_eq_true c]; rfl
  ·rw [if_neg c, decide_eq_false c]; rfl
 ·have hb' : b < 18446744073709551616 := hb
  have e : fD.sg = 9223372036854775808 := rfl
  have a := and_bit 63 b (by omega)
  rw [show (2 : Nat)^63 = 9223372036854775808 from by decide] at a
  rw [e, u64_and_nat b 9223372036854775808 (by omega) (by decide), a]
  by_cases c : 9223372036854775808 ≤ b
  ·rw [if_pos c, decide_eq_true c]; rfl
  ·rw [if_neg c, decide_eq_false c]; rfl
end Go.Proofs.YtapikmfckpgjoaaGreatDoor.BinLaw
end
