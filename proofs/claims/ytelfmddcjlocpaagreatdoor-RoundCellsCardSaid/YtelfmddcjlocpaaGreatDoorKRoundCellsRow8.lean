/-  What every walk over rows of limbs wants: blocks of the call's own, the element's type, math/bits.Len64. Condition: words below 2^64. math/bits' table as the row's condition gives it; math/bits.TrailingZeros64 by it. Condition: the table is laid. What the rows of these seats share: the door's heap meets the condition on math/bits.deBruijn64tab; how lists of words, dyadics and spans open. No condition beyond the rows' own. -/
import Derived.Test.YtelfmddcjlocpaaGreatDoorKRoundCellsPLenx0
import Derived.Test.YtelfmddcjlocpaaGreatDoorKRoundCellsBl
import Derived.Test.YtelfmddcjlocpaaGreatDoorKRoundCellsWLast
import Derived.WalkLawsBesides
import Derived.Laws.Externs
import Derived.Laws.BitsAllLaws
import Derived.Deep.Draws
import Derived.Below
import Derived.Handy
import Derived.Deep.RegionHeld3
import Derived.Lib.Hide
import Derived.OwnWalk
import Derived.Laws.OwnMore
import Derived.Shelf.Spec.TrailingZeros
import Derived.Lib.LaidTab
import Derived.Test.YtelfmddcjlocpaaGreatDoorRows
import Derived.WalkKit
import Derived.ProofKit
import Derived.OpenShut
import Derived.ShutString
import Derived.ChangeOld
import Derived.SizedLaws
import Derived.Deep.Slices
import Derived.Deep.Fields
import Derived.ChangeSame
import Derived.LaidMore
import Derived.Stop.Joined
section
namespace Go.Proofs.YtelfmddcjlocpaaGreatDoor.PLen
open Go.RowKit Go.Proofs.YtelfmddcjlocpaaGreatDoorW.PrintWords Go.Proofs.YtelfmddcjlocpaaGreatDoorW.PrintLast Go.Proofs.YtelfmddcjlocpaaGreatDoorW.PrintMore
attribute [local go_sem] max2_int min2_int max_two min_two max_three min_three max_four min_four   -- for this text's walks alone
set_option linter.unusedVariables false
set_option linter.unusedSimpArgs false
def tab8 : ByteArray := ⟨#[0, 1, 2, 2, 3, 3, 3, 3, 4, 4, 4, 4, 4, 4, 4, 4, 5, 5, 5, 5, 5, 5, 5, 5, 5, 5, 5, 5, 5, 5, 5, 5, 6, 6, 6, 6, 6, 6, 6, 6, 6, 6, 6, 6, 6, 6, 6, 6, 6, 6, 6, 6, 6, 6, 6, 6, 6, 6, 6, 6, 6, 6, 6, 6, 7, 7, 7, 7, 7, 7, 7, 7, 7, 7, 7, 7, 7, 7, 7, 7, 7, 7, 7, 7, 7, 7, 7, 7, 7, 7, 7, 7, 7, 7, 7, 7, 7, 7, 7, 7, 7, 7, 7, 7, 7, 7, 7, 7, 7, 7, 7, 7, 7, 7, 7, 7, 7, 7, 7, 7, 7, 7, 7, 7, 7, 7, 7, 7, 8, 8, 8, 8, 8, 8, 8, 8, 8, 8, 8, 8, 8, 8, 8, 8, 8, 8, 8, 8, 8, 8, 8, 8, 8, 8, 8, 8, 8, 8, 8, 8, 8, 8, 8, 8, 8, 8, 8, 8, 8, 8, 8, 8, 8, 8, 8, 8, 8, 8, 8, 8, 8, 8, 8, 8, 8, 8, 8, 8, 8, 8, 8, 8, 8, 8, 8, 8, 8, 8, 8, 8, 8, 8, 8, 8, 8, 8, 8, 8, 8, 8, 8, 8, 8, 8, 8, 8, 8, 8, 8, 8, 8, 8, 8, 8, 8, 8, 8, 8, 8, 8, 8, 8, 8, 8, 8, 8, 8, 8, 8, 8, 8, 8, 8, 8, 8, 8, 8, 8, 8, 8, 8, 8, 8, 8, 8, 8]⟩
theorem tab8_size : tab8.size = 256 := by decide +kernel
mutual
def bits_Len64.j0 : Nat → Int → Int → Option (Int)
 | 0, _, _ => none
 | k + 1, x0, x2 => if x0 ≥ 65536 then (bits_Len64.j1 k (x0 / 65536) (wrap64 (x2 + 16))) else (bits_Len64.j1 k x0 x2)
def bits_Len64.j1 : Nat → Int → Int → Option (Int)
 | 0, _, _ => none
 | k + 1, x0, x2 => if x0 ≥ 256 then (if 0 ≤ ((x0 / 256) % 256) then (if ((x0 / 256) % 256) < 256 then (some (wrap64 ((wrap64 (x2 + 8)) + (wrap64 (bt tab8 ((x0 / 256) % 256)))))) else (none)) else (none)) else (if 0 ≤ ((x0) % 256) then (if ((x0) % 256) < 256 then (some (wrap64 (x2 + (wrap64 (bt tab8 ((x0) % 256)))))) else (none)) else (none))
end
def bits_Len64.f (k : Nat) (a0 : Int) : Option (Int) := if a0 ≥ 4294967296 then (bits_Len64.j0 k (a0 / 4294967296) 32) else (bits_Len64.j0 k a0 0)
set_option maxHeartbeats 8000000 in
set_option maxRecDepth 100000 in
theorem bits_Len64.calls (k : Nat) (a0 : Int) (r : Int) (w : World) (h : bits_Len64.f k a0 = some r) :
  Calls Tryz.prog 72 #[.int .u64 a0] w fun e w' => e = .returned (.int .i64 r) ∧ Drawn0 w w' := by
 have H : (if a0 ≥ 4294967296 then (bits_Len64.j0 k (a0 / 4294967296) 32) else (bits_Len64.j0 k a0 0)) = some r := h
 clear h
 have HC2 := Aside0.mk H
 clear H
 go_enter Tryz.func72, Tryz.ntmps72
 go_upto_if 4 with (fail)
 go_cut [0, 2] (fun v0 v2 wc => ∃ (kq : Nat) (x0_1 : Int) (x2_1 : Int), v0 = .int .u64 x0_1 ∧ v2 = .int .i64 x2_1 ∧ Aside0 (bits_Len64.j0 kq x0_1 x2_1 = some r) ∧ Aside0 (kq ≤ k) ∧ Drawn0 w wc)
 case first =>
  have H := HC2.out
  clear HC2
  by_cases c3 : a0 ≥ 4294967296
  ·rw [if_pos c3] at H
   have c3b0 : decide (4294967296 ≤ a0) = true := decide_eq_true c3
   clear c3
   (first | rw [c3b0] | (simp only [i64_w, i32_w]; rw [c3b0]) | skip)
   have H' := Aside0.mk H
   clear H
   go_wp2
   go_meet
   case rel => exact ⟨_, (a0 / 4294967296), (32), (by first | rfl | (simp; done) | (simp [*]; done)), (by first | rfl | (simp; done) | (simp [*]; done)), H', ⟨by first | omega | exact Nat.le_refl _⟩, by repeat (first | exact Drawn0.refl _ | apply Drawn0.step)⟩
  ·rw [if_neg c3] at H
   have c3b0 : decide (4294967296 ≤ a0) = false := decide_eq_false c3
   clear c3
   (first | rw [c3b0] | (simp only [i64_w, i32_w]; rw [c3b0]) | skip)
   have H' := Aside0.mk H
   clear H
   go_wp2
   go_meet
   case rel => exact ⟨_, (a0), (0), (by first | rfl | (simp; done) | (simp [*]; done)), (by first | rfl | (simp; done) | (simp [*]; done)), H', ⟨by first | omega | exact Nat.le_refl _⟩, by repeat (first | exact Drawn0.refl _ | apply Drawn0.step)⟩
 case rest =>
  clear HC2
  try clear p2
  try clear c3
  try clear c3b0
  obtain ⟨kq, x0_1, x2_1, rfl, rfl, HA, HJ1, ⟨mc1, rfl⟩⟩ := hcut
  cases kq with
  | zero => exact absurd HA.out (by simp [bits_Len64.j0])
  | succ kj1 =>
   have H := HA.out
   clear HA
   simp only [bits_Len64.j0] at H
   have HC4 := Aside0.mk H
   clear H
   go_upto_if 8 with (fail)
   go_cut [0, 2] (fun v0 v2 wc => ∃ (kq : Nat) (x0_3 : Int) (x2_3 : Int), v0 = .int .u64 x0_3 ∧ v2 = .int .i64 x2_3 ∧ Aside0 (bits_Len64.j1 kq x0_3 x2_3 = some r) ∧ Aside0 (kq ≤ kj1) ∧ Drawn0 w wc)
   case first =>
    have H := HC4.out
    clear HC4
    by_cases c5 : x0_1 ≥ 65536
    ·rw [if_pos c5] at H
     have c5b0 : decide (65536 ≤ x0_1) = true := decide_eq_true c5
     clear c5
     (first | rw [c5b0] | (simp only [i64_w, i32_w]; rw [c5b0]) | skip)
     have H' := Aside0.mk H
     clear H
     go_wp2
     go_meet
     case rel => exact ⟨_, (x0_1 / 65536), (wrap64 (x2_1 + 16)), (by first | rfl | (simp; done) | (simp [*]; done)), (by first | rfl | (simp; done) | (simp [*]; done)), H', ⟨by have := HJ1.out; first | omega | exact Nat.le_refl _⟩, by repeat (first | exact Drawn0.refl _ | apply Drawn0.step)⟩
    ·rw [if_neg c5] at H
     have c5b0 : decide (65536 ≤ x0_1) = false := decide_eq_false c5
     clear c5
     (first | rw [c5b0] | (simp only [i64_w, i32_w]; rw [c5b0]) | skip)
     have H' := Aside0.mk H
     clear H
     go_wp2
     go_meet
     case rel => exact ⟨_, (x0_1), (x2_1), (by first | rfl | (simp; done) | (simp [*]; done)), (by first | rfl | (simp; done) | (simp [*]; done)), H', ⟨by have := HJ1.out; first | omega | exact Nat.le_refl _⟩, by repeat (first | exact Drawn0.refl _ | apply Drawn0.step)⟩
   case rest =>
    clear HC4
    try clear c1
    try clear p2
    try clear c3
    try clear c3b0
    try clear c5
    try clear c5b0
    try clear p2
    obtain ⟨kq, x0_3, x2_3, rfl, rfl, HA, HJ3, ⟨mc3, rfl⟩⟩ := hcut
    cases kq with
    | zero => exact absurd HA.out (by simp [bits_Len64.j1])
    | succ kj3 =>
     have H := HA.out
     clear HA
     simp only [bits_Len64.j1] at H
     by_cases c6 : x0_3 ≥ 256
     ·rw [if_pos c6] at H
      have c6b0 : decide (256 ≤ x0_3) = true := decide_eq_true c6
      clear c6
      obtain ⟨ji7, hji7⟩ : ∃ j_ : Int, ((x0_3 / 256) % 256) = j_ := ⟨_, rfl⟩
      replace H : (if 0 ≤ (ji7) then (if (ji7) < 256 then (some (wrap64 ((wrap64 (x2_3 + 8)) + (wrap64 (bt tab8 (ji7)))))) else (none)) else (none)) = some r := by first | (rw [hji7] at H; exact H) | (simp only [hji7] at H ⊢; exact H)
      by_cases c8 : 0 ≤ (ji7)
      ·rw [if_pos c8] at H
       have c8b0 : decide (0 ≤ (ji7)) = true := decide_eq_true c8
       clear c8
       by_cases c9 : (ji7) < 256
       ·rw [if_pos c9] at H
        have c9b0 : decide ((ji7) < 256) = true := decide_eq_true c9
        clear c9
        obtain rfl := Option.some.inj H
        have p10 : 0 ≤ ((ji7) : Int) := of_decide_eq_true (by first | (with_reducible assumption) | assumption)
        have q10 : (ji7) < (256 : Int) := of_decide_eq_true (by first | (with_reducible assumption) | assumption)
        have hx10 := bt_at tab8 (ji7)
        replace p10 := eq_true p10
        replace q10 := eq_true q10
        go_wp2
        go_ret
        exact ⟨by first | rfl | (simp; done) | (simp only [← hji7]; rw [← bt_at tab8 _ (by rw [tab8_size]; omega)]; rfl) | (simp only [← hji7] <;> (first | rfl | simp)) | (simp [*]; done), by repeat (first | exact Drawn0.refl _ | apply Drawn0.step)⟩
       ·rw [if_neg c9] at H
        exact absurd H (by simp)
      ·rw [if_neg c8] at H
       exact absurd H (by simp)
     ·rw [if_neg c6] at H
      have c6b0 : decide (256 ≤ x0_3) = false := decide_eq_false c6
      clear c6
      obtain ⟨ji11, hji11⟩ : ∃ j_ : Int, ((x0_3) % 256) = j_ := ⟨_, rfl⟩
      replace H : (if 0 ≤ (ji11) then (if (ji11) < 256 then (some (wrap64 (x2_3 + (wrap64 (bt tab8 (ji11)))))) else (none)) else (none)) = some r := by first | (rw [hji11] at H; exact H) | (simp only [hji11] at H ⊢; exact H)
      by_cases c12 : 0 ≤ (ji11)
      ·rw [if_pos c12] at H
       have c12b0 : decide (0 ≤ (ji11)) = true := decide_eq_true c12
       clear c12
       by_cases c13 : (ji11) < 256
       ·rw [if_pos c13] at H
        have c13b0 : decide ((ji11) < 256) = true := decide_eq_true c13
        clear c13
        obtain rfl := Option.some.inj H
        have p14 : 0 ≤ ((ji11) : Int) := of_decide_eq_true (by first | (with_reducible assumption) | assumption)
        have q14 : (ji11) < (256 : Int) := of_decide_eq_true (by first | (with_reducible assumption) | assumption)
        have hx14 := bt_at tab8 (ji11)
        replace p14 := eq_true p14
        replace q14 := eq_true q14
        go_wp2
        go_ret
        exact ⟨by first | rfl | (simp; done) | (simp only [← hji11]; rw [← bt_at tab8 _ (by rw [tab8_size]; omega)]; rfl) | (simp only [← hji11] <;> (first | rfl | simp)) | (simp [*]; done), by repeat (first | exact Drawn0.refl _ | apply Drawn0.step)⟩
       ·rw [if_neg c13] at H
        exact absurd H (by simp)
      ·rw [if_neg c12] at H
       exact absurd H (by simp)
end Go.Proofs.YtelfmddcjlocpaaGreatDoor.PLen
end
section
namespace Go.Proofs.YtelfmddcjlocpaaGreatDoor.GBase
open Go.RowKit Go.Proofs.YtelfmddcjlocpaaGreatDoorW.PrintWords Go.Proofs.YtelfmddcjlocpaaGreatDoorW.PrintMore Go.Proofs.YtelfmddcjlocpaaGreatDoor.Num Go.Proofs.YtelfmddcjlocpaaGreatDoor.PLen Go.Proofs.YtelfmddcjlocpaaGreatDoor.Ref
theorem box (w : World) (o : Obj) : Below w.heap.size w (w.alloc o) := (Below.refl _ _).alloc (Nat.le_refl _) _
theorem on {W w w' : World} (h : Below W.heap.size W w) (k : Below w.heap.size w w') : Below W.heap.size W w' := h.trans (k.mono h.size)
theorem u64_info : (Tryz.prog.info? 29).map (fun i => (i.zero, i.size, i.bytes)) = some (some (.int .u64 0), 1, 8) := by kernel_rfl
theorem tab8_at : ∀ j : Fin 256, bt tab8 (j.val : Int) = ((bl j.val : Nat) : Int) := by decide +kernel
theorem j1_ev (x a : Nat) (hx : x < 65536) (ha : a ≤ 48) : Ev (fun k => bits_Len64.j1 k (x : Int) (a : Int)) (((a + bl x : Nat) : Int)) := by
 have hb : bl x ≤ 16 := bl_le_of_lt (k := 16) hx
 by_cases c : 256 ≤ x
 ·have e1 : ((x : Int) / 256) % 256 = ((x / 256 : Nat) : Int) := by omega
  have ht := tab8_at ⟨x / 256, by omega⟩
  have hs := bl_shift x 8 (by show x / 256 ≠ 0; omega)
  have hs' : bl x = 8 + bl (x / 256) := hs
  refine Ev.step (f := fun _ => some (((a + bl x : Nat) : Int))) (fun k => ?_) (Ev.now _)
  rw [bits_Len64.j1, if_pos (by omega), e1, if_pos (by omega), if_pos (by omega)]
  have ht' : bt tab8 ((x / 256 : Nat) : Int) = ((bl (x / 256) : Nat) : Int) := ht
  rw [ht', hs', w64 (x := (a : Int) + 8) (by omega) (by omega), w64 (x := ((bl (x / 256) : Nat) : Int)) (by omega) (by omega), w64 (by omega) (by omega)]
  exact congrArg some (by omega)
 ·have e1 : (x : Int) % 256 = (x : Int) := by omega
  have ht : bt tab8 (x : Int) = ((bl x : Nat) : Int) := tab8_at ⟨x, by omega⟩
  refine Ev.step (f := fun _ => some (((a + bl x : Nat) : Int))) (fun k => ?_) (Ev.now _)
  rw [bits_Len64.j1, if_neg (by omega), e1, if_pos (by omega), if_pos (by omega), ht, w64 (x := ((bl x : Nat) : Int)) (by omega) (by omega), w64 (by omega) (by omega)]
  exact congrArg some (by omega)
theorem j0_ev (x a : Nat) (hx : x < 4294967296) (ha : a ≤ 32) : Ev (fun k => bits_Len64.j0 k (x : Int) (a : Int)) (((a + bl x : Nat) : Int)) := by
 by_cases c : 65536 ≤ x
 ·have hs : bl x = 16 + bl (x / 65536) := bl_shift x 16 (by show x / 65536 ≠ 0; omega)
  have h := j1_ev (x / 65536) (a + 16) (by omega) (by omega)
  refine Ev.step (f := fun k => bits_Len64.j1 k ((x / 65536 : Nat) : Int) ((a + 16 : Nat) : Int)) (fun k => ?_) ?_
  ·rw [bits_Len64.j0, if_pos (by omega), w64 (by omega) (by omega)]
   have e1 : (x : Int) / 65536 = ((x / 65536 : Nat) : Int) := by omega
   have e2 : (a : Int) + 16 = ((a + 16 : Nat) : Int) := by omega
   rw [e1, e2]
  ·rw [hs, show a + (16 + bl (x / 65536)) = a + 16 + bl (x / 65536) by omega]
   exact h
 ·refine Ev.step (f := fun k => bits_Len64.j1 k (x : Int) (a : Int)) (fun k => by rw [bits_Len64.j0, if_neg (by omega)]) (j1_ev x a (by omega) (by omega))
theorem len_ev (x : Nat) (hx : x < 18446744073709551616) : Ev (fun k => bits_Len64.f k (x : Int)) ((bl x : Nat) : Int) := by
 unfold bits_Len64.f
 by_cases c : 4294967296 ≤ x
 ·have hs : bl x = 32 + bl (x / 4294967296) := bl_shift x 32 (by show x / 4294967296 ≠ 0; omega)
  refine Ev.congr (fun k => if_pos (by omega)) ?_
  rw [hs]
  exact j0_ev (x / 4294967296) 32 (by omega) (by omega)
 ·refine Ev.congr (fun k => if_neg (by omega)) ?_
  have h := j0_ev x 0 (by omega) (by omega)
  rw [Nat.zero_add] at h
  exact h
end Go.Proofs.YtelfmddcjlocpaaGreatDoor.GBase
end
section
namespace Go.Proofs.YtelfmddcjlocpaaGreatDoor.GTab
open Go.RowKit
structure Tab (w : World) : Prop where mk :: (at' : ∀ j, j < 64 → w.cell? ⟨2, j, none⟩ = some (.int .u8 ((Lib.deBruijn64tab.getD j 0 : Nat) : Int)))
theorem Tab.next {w w' : World} (h : Tab w) (d : Below w.heap.size w w') : Tab w' := by
 have h0 : 2 < w.heap.size := World.block_lt_of_cell? _ _ (h.at' 0 (by decide))
 exact ⟨fun j hj => by rw [d.cell (p := ⟨2, j, none⟩) h0]; exact h.at' j hj⟩
set_option maxRecDepth 100000 in
theorem tz_core (x k idx : Nat) (w : World) (hx0 : ((x : Int) == 0) = false)
  (key : IntKind.u64.wrap (bits BinOp.and IntKind.u64 (x : Int) (IntKind.u64.wrap (-(x : Int))) * 285870213051353865) / 288230376151711744 = (idx : Int))
  (hi : idx < 64) (hk : k < 64) (hcell : w.cell? ⟨2, idx, none⟩ = some (.int .u8 k)) :
  Calls Tryz.prog 138 #[.int .u64 x] w fun e w' => e = .returned (.int .i64 k) ∧ w' = w := by
 go_enter Tryz.func138, Tryz.ntmps138
 go_wp2_with (simp only [key])
 go_ret
 exact ⟨rfl, rfl⟩
theorem tz_any (x : Nat) (hx : x < 18446744073709551616) (hx0 : x ≠ 0) (w : World) (hT : Tab w) :
  Calls Tryz.prog 138 #[.int .u64 x] w fun e w' => e = .returned (.int .i64 ((Lib.ctz 64 x : Nat) : Int)) ∧ w' = w := by
 obtain ⟨hlow, hk⟩ := Lib.lowest_bit 64 x hx0 hx
 obtain ⟨hi, htab⟩ := Lib.deBruijn64_at _ hk
 have hc := hT.at' _ hi
 rw [htab] at hc
 have key := tz64_key x _ hx hx0 hlow
 exact tz_core x _ _ w (by simpa using hx0) key hi hk hc
end Go.Proofs.YtelfmddcjlocpaaGreatDoor.GTab
end
section
namespace Go.Proofs.YtelfmddcjlocpaaGreatDoor.Row8
open Go.ChangeShapes Go.WideShapes Go.ChangeAt Go.RowKit Go.Deep Go.Proofs.YtelfmddcjlocpaaGreatDoorW.PrintWords Go.Proofs.YtelfmddcjlocpaaGreatDoor.GTab
set_option linter.unusedVariables false
theorem own : ownKnob Tryz.prog.godebug = none := by kernel_rfl
theorem laidOut : laidOutB Tryz.prog = true := by kernel_rfl
def tabs : List (String × DataW Unit) := [("math/bits.deBruijn64tab", Rows.laid_math_bits_deBruijn64tab)]
theorem door_met (os : Os) (args : Array Value) : laidMetH Tryz.prog tabs ((World.doorLaid Tryz.prog 14 os).forCall (fun _ _ => 0) ⟨#[], args, []⟩).memory :=
 laidMetH_of_parts3 (fuel := 8) (laidMet_of_run' 8 (by kernel_rfl) (by kernel_rfl)) (by kernel_rfl) (by kernel_rfl)
def zs : List Int := Lib.deBruijn64tab.map fun (n : Nat) => (n : Int)
theorem tab_data : (Rows.laid_math_bits_deBruijn64tab : DataW Unit) = Lib.tabData .u8 zs := by rfl
theorem zs_at : ∀ j, j < 64 → zs[j]? = some ((Lib.deBruijn64tab.getD j 0 : Nat) : Int) := by decide +kernel
theorem of_laid {W : World} (h : laidMetH Tryz.prog tabs W) : Tab W := by
 rw [MakeChecks.laidMetH_plain _ _ _ (by kernel_rfl)] at h
 unfold tabs at h
 rw [tab_data] at h
 have t := Lib.tabIs_of_head (g := 2) (t := 192) (e := 5) (n := 64) (by kernel_rfl) (by kernel_rfl) Tryz.underlying192 Tryz.underlying5 (by kernel_rfl) (by kernel_rfl) h
 unfold Lib.TabIs at t
 refine ⟨fun j hj => ?_⟩
 have := World.var?_cell (show Tryz.prog.globalNamed "math/bits.deBruijn64tab" = some 2 by kernel_rfl) t j
 rw [this]
 simp [zs_at j hj]
structure IsL (w : World) (A : Option Addr) (len cap : Nat) (l : List Int) : Prop where mk :: (c : Kd.C (Kd.int .u64) w A l.length l) (cap : l.length ≤ cap) (len : l.length = len) (wf : ∀ d ∈ l, 0 ≤ d ∧ d < 18446744073709551616)
section
variable {H : Type} {enc : TypeId × Value → H} {w : World} {base : Nat} {spare : Nat → Bool} {held : Bool}
theorem open_words {fuel : Nat} {cs : List Value} {x : DataW H × List MemPlace} (h : DataW.trod enc Tryz.prog w base spare held fuel 22 cs = some x) : ∃ A len cap l, cs = [.slice A len cap] ∧ IsL w A len cap l := by
 rcases open_ints Tryz.underlying22 Tryz.underlying29 (by kernel_rfl) h with ⟨rfl, _⟩ | ⟨a, len, cap, zs, rfl, _, hl, hm, hz, _, hcell, hw⟩
 ·exact ⟨none, 0, 0, [], rfl, ⟨rfl, by decide, fun h0 => absurd h0 (by decide)⟩, Nat.le_refl _, rfl, fun d hd => by cases hd⟩
 ·have hlz : len ≤ zs.length := by rw [hz]; split <;> omega
  have hlen : (zs.take len).length = len := by rw [List.length_take]; omega
  refine ⟨some a, len, cap, zs.take len, rfl, ?_, by omega, hlen, fun d hd => ?_⟩
  ·refine Kd.C_of_reads (d := 0) ⟨rfl, by unfold maxLen at hm; omega, fun _ => ⟨a, rfl, fun j hj => ?_⟩⟩
   rw [hlen] at hj
   have e : (zs.take len).getD j 0 = zs.getD j 0 := by
    rw [List.getD_eq_getElem?_getD, List.getD_eq_getElem?_getD, List.getElem?_take_of_lt hj]
   rw [e]
   exact hcell j (by omega)
  ·have := hw d (List.mem_of_mem_take hd)
   simp [Lit.wf] at this
   have e1 : IntKind.u64.min = 0 := rfl
   have e2 : IntKind.u64.max = 18446744073709551615 := rfl
   omega
end
end Go.Proofs.YtelfmddcjlocpaaGreatDoor.Row8
end
