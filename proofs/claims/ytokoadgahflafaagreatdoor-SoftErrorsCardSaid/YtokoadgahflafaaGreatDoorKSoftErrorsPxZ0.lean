/- Printed functions' contracts as contracts of Px. Condition: math/bits' table is laid. Functions of the program as plain Lean functions (definitions as the print's), and that the machine's calls do what they do (contracts 'X.c', by Px). Condition: math/bits' table is laid. -/
import Derived.Test.YtokoadgahflafaaGreatDoorKSoftErrorsPxBr
import Derived.Test.YtokoadgahflafaaGreatDoorKSoftErrorsPRefx0
import Derived.Test.YtokoadgahflafaaGreatDoorKSoftErrorsPRefx1
import Derived.Test.YtokoadgahflafaaGreatDoorKSoftErrorsPRefx2
import Derived.Test.YtokoadgahflafaaGreatDoorKSoftErrorsPRefx3
import Derived.Test.YtokoadgahflafaaGreatDoorKSoftErrorsPxL0
import Derived.Test.YtokoadgahflafaaGreatDoorKSoftErrorsPxL1
import Derived.Test.YtokoadgahflafaaGreatDoorKSoftErrorsPxL2
import Derived.Test.YtokoadgahflafaaGreatDoorKSoftErrorsPxL3
import Derived.Test.YtokoadgahflafaaGreatDoorKSoftErrorsPxL4
import Derived.Test.YtokoadgahflafaaGreatDoorKSoftErrorsGM
import Derived.Test.YtokoadgahflafaaGreatDoorKSoftErrorsPxM0
import Derived.Test.YtokoadgahflafaaGreatDoorKSoftErrorsPxOp
section
set_option linter.unusedVariables false
namespace Go.Proofs.YtokoadgahflafaaGreatDoor.PRef
open Go Go.RowKit Go.Proofs.YtokoadgahflafaaGreatDoorW.PrintWords Go.Proofs.YtokoadgahflafaaGreatDoorW.PrintMore Go.Proofs.YtokoadgahflafaaGreatDoor.Px
theorem gnomonref01_Norm.c {k : Nat} {l0 : List Int} {r : List Int} (h : gnomonref01_Norm.f k l0 = some r) : Con Tryz.prog Gw 71 [.s (.sl .u32 l0)] (· = .s (.sl .u32 r)) := by
 refine brg Tryz.func71 (by kernel_rfl) fun w S vs gw hS vs_ => ?_
 obtain ⟨A0, c0, u0, rfl, hc0, hr0, v0⟩ := a_sl vs_
 obtain rfl := a_nil v0
 exact (gnomonref01_Norm.calls k A0 c0 l0 r w hr0 hc0 h).mono fun e w' ⟨v0_, he, hR_v0_, hb⟩ => ⟨_, _, he, rfl, ofR hR_v0_ hS, hb⟩
theorem gnomonref01_Word.c {k : Nat} {a0 : Int} {r : List Int} (h : gnomonref01_Word.f k a0 = some r) : Con Tryz.prog Gw 70 [.s (.i .u64 a0)] (· = .s (.sl .u32 r)) := by
 refine brg Tryz.func70 (by kernel_rfl) fun w S vs gw hS vs_ => ?_
 obtain ⟨u0, rfl, v0⟩ := a_i vs_
 obtain rfl := a_nil v0
 exact (gnomonref01_Word.calls k a0 r w h).mono fun e w' ⟨v0_, he, hR_v0_, hb⟩ => ⟨_, _, he, rfl, ofR hR_v0_ hS, hb⟩
theorem gnomonref01_Shl.c {k : Nat} {l0 : List Int} {a1 : Int} {r : List Int} (h : gnomonref01_Shl.f k l0 a1 = some r) : Con Tryz.prog Gw 72 [.s (.sl .u32 l0), .s (.i .i64 a1)] (· = .s (.sl .u32 r)) := by
 refine brg Tryz.func72 (by kernel_rfl) fun w S vs gw hS vs_ => ?_
 obtain ⟨A0, c0, u0, rfl, hc0, hr0, v0⟩ := a_sl vs_
 obtain ⟨u1, rfl, v1⟩ := a_i v0
 obtain rfl := a_nil v1
 exact (gnomonref01_Shl.calls k A0 c0 l0 a1 r w hr0 hc0 h).mono fun e w' ⟨v0_, he, hR_v0_, hb⟩ => ⟨_, _, he, rfl, ofR hR_v0_ hS, hb⟩
theorem gnomonref01_Bits.c {k : Nat} {l0 : List Int} {r : Int} (h : gnomonref01_Bits.f k l0 = some r) : Con Tryz.prog Gw 77 [.s (.sl .u32 l0)] (· = .s (.i .i64 r)) := by
 refine brg Tryz.func77 (by kernel_rfl) fun w S vs gw hS vs_ => ?_
 obtain ⟨A0, c0, u0, rfl, hc0, hr0, v0⟩ := a_sl vs_
 obtain rfl := a_nil v0
 exact (gnomonref01_Bits.calls k A0 c0 l0 r w hr0 hc0 h).mono fun e w' ⟨he, hb⟩ => ⟨_, _, he, rfl, rfl, hb.below⟩
theorem gnomonref01_Fits.c {k : Nat} {l0 : List Int} {r : Int × Bool} (h : gnomonref01_Fits.f k l0 = some r) : Con Tryz.prog Gw 78 [.s (.sl .u32 l0)] (· = .tu [.s (.i .u64 r.1), .s (.b r.2)]) := by
 refine brg Tryz.func78 (by kernel_rfl) fun w S vs gw hS vs_ => ?_
 obtain ⟨A0, c0, u0, rfl, hc0, hr0, v0⟩ := a_sl vs_
 obtain rfl := a_nil v0
 exact (gnomonref01_Fits.calls k A0 c0 l0 r.1 r.2 w hr0 hc0 h).mono fun e w' ⟨he, hb⟩ => ⟨_, _, he, rfl, ⟨[.int .u64 r.1, .bool r.2], rfl, (.cons rfl (.cons rfl .nil))⟩, hb⟩
theorem gnomonref01_Shr.c {k : Nat} {l0 : List Int} {a1 : Int} {r : List Int} (h : gnomonref01_Shr.f k l0 a1 = some r) : Con Tryz.prog Gw 79 [.s (.sl .u32 l0), .s (.i .i64 a1)] (· = .s (.sl .u32 r)) := by
 refine brg Tryz.func79 (by kernel_rfl) fun w S vs gw hS vs_ => ?_
 obtain ⟨A0, c0, u0, rfl, hc0, hr0, v0⟩ := a_sl vs_
 obtain ⟨u1, rfl, v1⟩ := a_i v0
 obtain rfl := a_nil v1
 exact (gnomonref01_Shr.calls k A0 c0 l0 a1 r w hr0 hc0 h).mono fun e w' ⟨v0_, he, hR_v0_, hb⟩ => ⟨_, _, he, rfl, ofR hR_v0_ hS, hb⟩
theorem gnomonref01_Add.c {k : Nat} {l0 : List Int} {l1 : List Int} {r : List Int} (h : gnomonref01_Add.f k l0 l1 = some r) : Con Tryz.prog Gw 69 [.s (.sl .u32 l0), .s (.sl .u32 l1)] (· = .s (.sl .u32 r)) := by
 refine brg Tryz.func69 (by kernel_rfl) fun w S vs gw hS vs_ => ?_
 obtain ⟨A0, c0, u0, rfl, hc0, hr0, v0⟩ := a_sl vs_
 obtain ⟨A1, c1, u1, rfl, hc1, hr1, v1⟩ := a_sl v0
 obtain rfl := a_nil v1
 exact (gnomonref01_Add.calls k A0 c0 l0 A1 c1 l1 r w hr0 hc0 hr1 hc1 h).mono fun e w' ⟨v0_, he, hR_v0_, hb⟩ => ⟨_, _, he, rfl, ofR hR_v0_ hS, hb⟩
theorem gnomonref01_Cmp.c {k : Nat} {l0 : List Int} {l1 : List Int} {r : Int} (h : gnomonref01_Cmp.f k l0 l1 = some r) : Con Tryz.prog Gw 73 [.s (.sl .u32 l0), .s (.sl .u32 l1)] (· = .s (.i .i64 r)) := by
 refine brg Tryz.func73 (by kernel_rfl) fun w S vs gw hS vs_ => ?_
 obtain ⟨A0, c0, u0, rfl, hc0, hr0, v0⟩ := a_sl vs_
 obtain ⟨A1, c1, u1, rfl, hc1, hr1, v1⟩ := a_sl v0
 obtain rfl := a_nil v1
 exact (gnomonref01_Cmp.calls k A0 c0 l0 A1 c1 l1 r w hr0 hc0 hr1 hc1 h).mono fun e w' ⟨he, hb⟩ => ⟨_, _, he, rfl, rfl, hb.below⟩
theorem gnomonref01_Sub.c {k : Nat} {l0 : List Int} {l1 : List Int} {r : List Int} (h : gnomonref01_Sub.f k l0 l1 = some r) : Con Tryz.prog Gw 74 [.s (.sl .u32 l0), .s (.sl .u32 l1)] (· = .s (.sl .u32 r)) := by
 refine brg Tryz.func74 (by kernel_rfl) fun w S vs gw hS vs_ => ?_
 obtain ⟨A0, c0, u0, rfl, hc0, hr0, v0⟩ := a_sl vs_
 obtain ⟨A1, c1, u1, rfl, hc1, hr1, v1⟩ := a_sl v0
 obtain rfl := a_nil v1
 exact (gnomonref01_Sub.calls k A0 c0 l0 A1 c1 l1 r w hr0 hc0 hr1 hc1 h).mono fun e w' ⟨v0_, he, hR_v0_, hb⟩ => ⟨_, _, he, rfl, ofR hR_v0_ hS, hb⟩
theorem gnomonref01_Mul.c {k : Nat} {l0 : List Int} {l1 : List Int} {r : List Int} (h : gnomonref01_Mul.f k l0 l1 = some r) : Con Tryz.prog Gw 76 [.s (.sl .u32 l0), .s (.sl .u32 l1)] (· = .s (.sl .u32 r)) := by
 refine brg Tryz.func76 (by kernel_rfl) fun w S vs gw hS vs_ => ?_
 obtain ⟨A0, c0, u0, rfl, hc0, hr0, v0⟩ := a_sl vs_
 obtain ⟨A1, c1, u1, rfl, hc1, hr1, v1⟩ := a_sl v0
 obtain rfl := a_nil v1
 exact (gnomonref01_Mul.calls k A0 c0 l0 A1 c1 l1 r w hr0 hc0 hr1 hc1 h).mono fun e w' ⟨v0_, he, hR_v0_, hb⟩ => ⟨_, _, he, rfl, ofR hR_v0_ hS, hb⟩
end Go.Proofs.YtokoadgahflafaaGreatDoor.PRef
end
section
set_option linter.unusedVariables false
namespace Go.Proofs.YtokoadgahflafaaGreatDoor.PLib
open Go Go.RowKit Go.Proofs.YtokoadgahflafaaGreatDoorW.PrintWords Go.Proofs.YtokoadgahflafaaGreatDoorW.PrintMore Go.Proofs.YtokoadgahflafaaGreatDoor.Given Go.Proofs.YtokoadgahflafaaGreatDoor.Px Go.Proofs.YtokoadgahflafaaGreatDoor.PRef
def gnomonref04_Mk.f (k : Nat) (a0 : Bool) (l1 : List Int) : Option (Bool × List Int) := (gnomonref01_Norm.f k l1).bind fun t167 => (if a0 = true then (some (decide ((t167.length : Int) > 0), t167)) else (some (false, t167)))
theorem gnomonref04_Mk.mono : ∀ a0 a1 k, LeO (gnomonref04_Mk.f k a0 a1) (gnomonref04_Mk.f (k + 1) a0 a1) := by
 intro a0 a1 k
 unfold gnomonref04_Mk.f
 repeat' first
   | (with_reducible exact gnomonref01_Norm.mono _ _)
   | (with_reducible exact LeO.refl _)
   | (with_reducible exact LeO.none _)
   | (with_reducible refine LeO.ite ?_ ?_)
   | (with_reducible refine LeO.bind ?_ (fun _ => ?_))
   | exact gnomonref01_Norm.mono _ _
   | exact LeO.none _
   | refine LeO.ite ?_ ?_
   | refine LeO.bind ?_ (fun _ => ?_)
theorem gnomonref04_Mk.c {k : Nat} {a0 : Bool} {l1 : List Int} {r : Bool × List Int} (h : gnomonref04_Mk.f k a0 l1 = some r) : Con Tryz.prog Gw 29 [.s (.b a0), .s (.sl .u32 l1)] (· = .ag [.b r.1, .sl .u32 r.2]) := by
 unfold gnomonref04_Mk.f at h
 obtain ⟨t167, A1, h⟩ := bnd h
 rcases ite_e h with ⟨c2, h⟩ | ⟨c2, h⟩
 ·have h := si h; subst h
  exact pth Tryz.func29 [.r (.s (.sl .u32 t167)), .br true, .br true, .br true, .br true] (fun e => ai (gnomonref01_Norm.c A1) (ai c2 (ai c2 (ai c2 (ai c2 e))))) (by kernel_rfl)
 ·have h := si h; subst h
  exact pth Tryz.func29 [.r (.s (.sl .u32 t167)), .br false, .br false, .br false, .br false] (fun e => ai (gnomonref01_Norm.c A1) (ai (z0 c2) (ai (z0 c2) (ai (z0 c2) (ai (z0 c2) e))))) (by kernel_rfl)
def gnomonref04_Sign.f (a0_0 : Bool) (l0_1 : List Int) : Option (Int) := if (l0_1.length : Int) = 0 then (some 0) else (if a0_0 = true then (some (-1)) else (some 1))
theorem gnomonref04_Sign.c {a0_0 : Bool} {l0_1 : List Int} {r : Int} (h : gnomonref04_Sign.f a0_0 l0_1 = some r) : Con Tryz.prog Gw 32 [.ag [.b a0_0, .sl .u32 l0_1]] (· = .s (.i .i64 r)) := by
 unfold gnomonref04_Sign.f at h
 rcases ite_e h with ⟨c1, h⟩ | ⟨c1, h⟩
 ·have h := si h; subst h
  exact pth Tryz.func32 [.br true] (fun e => ai (q1 c1) e) (by kernel_rfl)
 ·rcases ite_e h with ⟨c2, h⟩ | ⟨c2, h⟩
  ·have h := si h; subst h
   exact pth Tryz.func32 [.br false, .br true] (fun e => ai (q0 c1) (ai c2 e)) (by kernel_rfl)
  ·have h := si h; subst h
   exact pth Tryz.func32 [.br false, .br false] (fun e => ai (q0 c1) (ai (z0 c2) e)) (by kernel_rfl)
def gnomonref04_Shl.f (k : Nat) (a0_0 : Bool) (l0_1 : List Int) (a1 : Int) : Option (Bool × List Int) := (gnomonref01_Shl.f k l0_1 a1).bind fun t1 => ((gnomonref04_Mk.f k a0_0 t1).bind fun bt2 => (some (bt2.1, bt2.2)))
theorem gnomonref04_Shl.mono : ∀ a0 a1 a2 k, LeO (gnomonref04_Shl.f k a0 a1 a2) (gnomonref04_Shl.f (k + 1) a0 a1 a2) := by
 intro a0 a1 a2 k
 unfold gnomonref04_Shl.f
 repeat' first
  | (with_reducible exact gnomonref01_Shl.mono _ _ _)
  | (with_reducible exact gnomonref04_Mk.mono _ _ _)
  | (with_reducible exact LeO.refl _)
  | (with_reducible exact LeO.none _)
  | (with_reducible refine LeO.ite ?_ ?_)
  | (with_reducible refine LeO.bind ?_ (fun _ => ?_))
theorem gnomonref04_Shl.c {k : Nat} {a0_0 : Bool} {l0_1 : List Int} {a1 : Int} {r : Bool × List Int} (h : gnomonref04_Shl.f k a0_0 l0_1 a1 = some r) : Con Tryz.prog Gw 35 [.ag [.b a0_0, .sl .u32 l0_1], .s (.i .i64 a1)] (· = .ag [.b r.1, .sl .u32 r.2]) := by
 unfold gnomonref04_Shl.f at h
 obtain ⟨t1, A1, h⟩ := bnd h
 obtain ⟨bt2, A2, h⟩ := bnd h
 have h := si h; subst h
 exact pth Tryz.func35 [.r (.s (.sl .u32 t1)), .r (.ag [.b bt2.1, .sl .u32 bt2.2])] (fun e => ai (gnomonref01_Shl.c A1) (ai (gnomonref04_Mk.c A2) e)) (by kernel_rfl)
def gnomonref04_Flip.f (k : Nat) (a0_0 : Bool) (l0_1 : List Int) : Option (Bool × List Int) := (gnomonref04_Mk.f k (!a0_0) l0_1).bind fun bt1 => (some (bt1.1, bt1.2))
theorem gnomonref04_Flip.mono : ∀ a0 a1 k, LeO (gnomonref04_Flip.f k a0 a1) (gnomonref04_Flip.f (k + 1) a0 a1) := by
 intro a0 a1 k
 unfold gnomonref04_Flip.f
 repeat' first
  | (with_reducible exact gnomonref04_Mk.mono _ _ _)
  | (with_reducible exact LeO.refl _)
  | (with_reducible exact LeO.none _)
  | (with_reducible refine LeO.ite ?_ ?_)
  | (with_reducible refine LeO.bind ?_ (fun _ => ?_))
theorem gnomonref04_Flip.c {k : Nat} {a0_0 : Bool} {l0_1 : List Int} {r : Bool × List Int} (h : gnomonref04_Flip.f k a0_0 l0_1 = some r) : Con Tryz.prog Gw 36 [.ag [.b a0_0, .sl .u32 l0_1]] (· = .ag [.b r.1, .sl .u32 r.2]) := by
 unfold gnomonref04_Flip.f at h
 obtain ⟨bt1, A1, h⟩ := bnd h
 have h := si h; subst h
 exact pth Tryz.func36 [.r (.ag [.b bt1.1, .sl .u32 bt1.2])] (fun e => ai (gnomonref04_Mk.c A1) e) (by kernel_rfl)
def gnomonref04_Abs.f (k : Nat) (a0_0 : Bool) (l0_1 : List Int) : Option (Bool × List Int) := (gnomonref04_Mk.f k false l0_1).bind fun bt1 => (some (bt1.1, bt1.2))
theorem gnomonref04_Abs.mono : ∀ a0 a1 k, LeO (gnomonref04_Abs.f k a0 a1) (gnomonref04_Abs.f (k + 1) a0 a1) := by
 intro a0 a1 k
 unfold gnomonref04_Abs.f
 repeat' first
  | (with_reducible exact gnomonref04_Mk.mono _ _ _)
  | (with_reducible exact LeO.refl _)
  | (with_reducible exact LeO.none _)
  | (with_reducible refine LeO.ite ?_ ?_)
  | (with_reducible refine LeO.bind ?_ (fun _ => ?_))
theorem gnomonref04_Abs.c {k : Nat} {a0_0 : Bool} {l0_1 : List Int} {r : Bool × List Int} (h : gnomonref04_Abs.f k a0_0 l0_1 = some r) : Con Tryz.prog Gw 37 [.ag [.b a0_0, .sl .u32 l0_1]] (· = .ag [.b r.1, .sl .u32 r.2]) := by
 unfold gnomonref04_Abs.f at h
 obtain ⟨bt1, A1, h⟩ := bnd h
 have h := si h; subst h
 exact pth Tryz.func37 [.r (.ag [.b bt1.1, .sl .u32 bt1.2])] (fun e => ai (gnomonref04_Mk.c A1) e) (by kernel_rfl)
def gnomonref07_Parts.f (a0_0 : Int) (a0_1 : Int) (a0_2 : Int) (a0_3 : Int) (a0_4 : Int) (a0_5 : Int) (a1 : Int) : Option (Int × Int) := if 0 ≤ wrap64 (a0_1 - 1) then (if shl .u64 1 (wrap64 (a0_1 - 1)) = 0 then (none) else (if (IntKind.u64.wrap (Int.tdiv a1 (shl .u64 1 (wrap64 (a0_1 - 1))))) = 0 then (some (Int.tmod a1 (shl .u64 1 (wrap64 (a0_1 - 1))), a0_2)) else (some (IntKind.u64.wrap ((shl .u64 1 (wrap64 (a0_1 - 1))) + (Int.tmod a1 (shl .u64 1 (wrap64 (a0_1 - 1))))), wrap64 ((wrap64 (a0_2 + (wrap64 (IntKind.u64.wrap (Int.tdiv a1 (shl .u64 1 (wrap64 (a0_1 - 1)))))))) - 1))))) else (none)
theorem gnomonref07_Parts.c {a0_0 : Int} {a0_1 : Int} {a0_2 : Int} {a0_3 : Int} {a0_4 : Int} {a0_5 : Int} {a1 : Int} {r : Int × Int} (h : gnomonref07_Parts.f a0_0 a0_1 a0_2 a0_3 a0_4 a0_5 a1 = some r) : Con Tryz.prog Gw 125 [.ag [.i .u64 a0_0, .i .i64 a0_1, .i .i64 a0_2, .i .i64 a0_3, .i .u64 a0_4, .i .u64 a0_5], .s (.i .u64 a1)] (· = .tu [.s (.i .u64 r.1), .s (.i .i64 r.2)]) := by
 unfold gnomonref07_Parts.f at h
 rcases ite_e h with ⟨c1, h⟩ | ⟨c1, h⟩
 ·rcases ite_e h with ⟨c2, h⟩ | ⟨c2, h⟩
  ·cases h
  ·rcases ite_e h with ⟨c3, h⟩ | ⟨c3, h⟩
   ·have h := si h; subst h
    exact pth Tryz.func125 [.br true] (fun e => ai c1 (ai c2 (ai c2 (ai (q1 c3) e)))) (by kernel_rfl)
   ·have h := si h; subst h
    exact pth Tryz.func125 [.br false] (fun e => ai c1 (ai c2 (ai c2 (ai (q0 c3) e)))) (by kernel_rfl)
 ·cases h
def gnomonref07_Whole.f (k : Nat) (a0_0 : Int) (a0_1 : Int) (a0_2 : Int) (a0_3 : Int) (a0_4 : Int) (a0_5 : Int) (a1 : Int) : Option (Bool × List Int) := (gnomonref07_Cut.f a0_0 a0_1 a0_2 a0_3 a0_4 a0_5 a1).bind fun bt1 => ((gnomonref07_Parts.f a0_0 a0_1 a0_2 a0_3 a0_4 a0_5 bt1.2).bind fun bt2 => ((gnomonref01_Word.f k bt2.1).bind fun t3 => ((gnomonref01_Shl.f k t3 (wrap64 (bt2.2 - a0_2))).bind fun t4 => ((gnomonref04_Mk.f k bt1.1 t4).bind fun bt5 => (some (bt5.1, bt5.2))))))
theorem gnomonref07_Whole.mono : ∀ a0 a1 a2 a3 a4 a5 a6 k, LeO (gnomonref07_Whole.f k a0 a1 a2 a3 a4 a5 a6) (gnomonref07_Whole.f (k + 1) a0 a1 a2 a3 a4 a5 a6) := by
 intro a0 a1 a2 a3 a4 a5 a6 k
 unfold gnomonref07_Whole.f
 repeat' first
  | (with_reducible exact gnomonref01_Shl.mono _ _ _)
  | (with_reducible exact gnomonref01_Word.mono _ _)
  | (with_reducible exact gnomonref04_Mk.mono _ _ _)
  | (with_reducible exact LeO.refl _)
  | (with_reducible exact LeO.none _)
  | (with_reducible refine LeO.ite ?_ ?_)
  | (with_reducible refine LeO.bind ?_ (fun _ => ?_))
theorem gnomonref07_Whole.c {k : Nat} {a0_0 : Int} {a0_1 : Int} {a0_2 : Int} {a0_3 : Int} {a0_4 : Int} {a0_5 : Int} {a1 : Int} {r : Bool × List Int} (h : gnomonref07_Whole.f k a0_0 a0_1 a0_2 a0_3 a0_4 a0_5 a1 = some r) : Con Tryz.prog Gw 68 [.ag [.i .u64 a0_0, .i .i64 a0_1, .i .i64 a0_2, .i .i64 a0_3, .i .u64 a0_4, .i .u64 a0_5], .s (.i .u64 a1)] (· = .ag [.b r.1, .sl .u32 r.2]) := by
 unfold gnomonref07_Whole.f at h
 obtain ⟨bt1, A1, h⟩ := bnd h
 obtain ⟨bt2, A2, h⟩ := bnd h
 obtain ⟨t3, A3, h⟩ := bnd h
 obtain ⟨t4, A4, h⟩ := bnd h
 obtain ⟨bt5, A5, h⟩ := bnd h
 have h := si h; subst h
 exact pth Tryz.func68 [.r (.tu [.s (.b bt1.1), .s (.i .u64 bt1.2)]), .r (.tu [.s (.i .u64 bt2.1), .s (.i .i64 bt2.2)]), .r (.s (.sl .u32 t3)), .r (.s (.sl .u32 t4)), .r (.ag [.b bt5.1, .sl .u32 bt5.2])] (fun e => ai (gnomonref07_Cut.c A1) (ai (gnomonref07_Parts.c A2) (ai (gnomonref01_Word.c A3) (ai (gnomonref01_Shl.c A4) (ai (gnomonref04_Mk.c A5) e))))) (by kernel_rfl)
def gnomonlaw09_units.f (k : Nat) (a0_0 : Int) (a0_1 : Int) (a0_2 : Int) (a0_3 : Int) (a0_4 : Int) (a0_5 : Int) (a1 : Int) : Option (Bool × List Int) := (gnomonref07_Whole.f k a0_0 a0_1 a0_2 a0_3 a0_4 a0_5 a1).bind fun bt1 => (some (bt1.1, bt1.2))
theorem gnomonlaw09_units.mono : ∀ a0 a1 a2 a3 a4 a5 a6 k, LeO (gnomonlaw09_units.f k a0 a1 a2 a3 a4 a5 a6) (gnomonlaw09_units.f (k + 1) a0 a1 a2 a3 a4 a5 a6) := by
 intro a0 a1 a2 a3 a4 a5 a6 k
 unfold gnomonlaw09_units.f
 repeat' first
  | (with_reducible exact gnomonref07_Whole.mono _ _ _ _ _ _ _ _)
  | (with_reducible exact LeO.refl _)
  | (with_reducible exact LeO.none _)
  | (with_reducible refine LeO.ite ?_ ?_)
  | (with_reducible refine LeO.bind ?_ (fun _ => ?_))
theorem gnomonlaw09_units.c {k : Nat} {a0_0 : Int} {a0_1 : Int} {a0_2 : Int} {a0_3 : Int} {a0_4 : Int} {a0_5 : Int} {a1 : Int} {r : Bool × List Int} (h : gnomonlaw09_units.f k a0_0 a0_1 a0_2 a0_3 a0_4 a0_5 a1 = some r) : Con Tryz.prog Gw 27 [.ag [.i .u64 a0_0, .i .i64 a0_1, .i .i64 a0_2, .i .i64 a0_3, .i .u64 a0_4, .i .u64 a0_5], .s (.i .u64 a1)] (· = .ag [.b r.1, .sl .u32 r.2]) := by
 unfold gnomonlaw09_units.f at h
 obtain ⟨bt1, A1, h⟩ := bnd h
 have h := si h; subst h
 exact pth Tryz.func27 [.r (.ag [.b bt1.1, .sl .u32 bt1.2])] (fun e => ai (gnomonref07_Whole.c A1) e) (by kernel_rfl)
def gnomonref04_Add.f (k : Nat) (a0_0 : Bool) (l0_1 : List Int) (a1_0 : Bool) (l1_1 : List Int) : Option (Bool × List Int) := if a0_0 = a1_0 then ((gnomonref01_Add.f k l0_1 l1_1).bind fun t1 => ((gnomonref04_Mk.f k a0_0 t1).bind fun bt2 => (some (bt2.1, bt2.2)))) else ((gnomonref01_Cmp.f k l0_1 l1_1).bind fun t3 => (if t3 ≥ 0 then ((gnomonref01_Sub.f k l0_1 l1_1).bind fun t4 => ((gnomonref04_Mk.f k a0_0 t4).bind fun bt5 => (some (bt5.1, bt5.2)))) else ((gnomonref01_Sub.f k l1_1 l0_1).bind fun t6 => ((gnomonref04_Mk.f k a1_0 t6).bind fun bt7 => (some (bt7.1, bt7.2))))))
theorem gnomonref04_Add.mono : ∀ a0 a1 a2 a3 k, LeO (gnomonref04_Add.f k a0 a1 a2 a3) (gnomonref04_Add.f (k + 1) a0 a1 a2 a3) := by
 intro a0 a1 a2 a3 k
 unfold gnomonref04_Add.f
 repeat' first
  | (with_reducible exact gnomonref01_Add.mono _ _ _)
  | (with_reducible exact gnomonref01_Cmp.mono _ _ _)
  | (with_reducible exact gnomonref01_Sub.mono _ _ _)
  | (with_reducible exact gnomonref04_Mk.mono _ _ _)
  | (with_reducible exact LeO.refl _)
  | (with_reducible exact LeO.none _)
  | (with_reducible refine LeO.ite ?_ ?_)
  | (with_reducible refine LeO.bind ?_ (fun _ => ?_))
theorem gnomonref04_Add.c {k : Nat} {a0_0 : Bool} {l0_1 : List Int} {a1_0 : Bool} {l1_1 : List Int} {r : Bool × List Int} (h : gnomonref04_Add.f k a0_0 l0_1 a1_0 l1_1 = some r) : Con Tryz.prog Gw 31 [.ag [.b a0_0, .sl .u32 l0_1], .ag [.b a1_0, .sl .u32 l1_1]] (· = .ag [.b r.1, .sl .u32 r.2]) := by
 unfold gnomonref04_Add.f at h
 rcases ite_e h with ⟨c1, h⟩ | ⟨c1, h⟩
 ·obtain ⟨t1, A2, h⟩ := bnd h
  obtain ⟨bt2, A3, h⟩ := bnd h
  have h := si h; subst h
  exact pth Tryz.func31 [.br true, .r (.s (.sl .u32 t1)), .r (.ag [.b bt2.1, .sl .u32 bt2.2])] (fun e => ai (q1 c1) (ai (gnomonref01_Add.c A2) (ai (gnomonref04_Mk.c A3) e))) (by kernel_rfl)
 ·obtain ⟨t3, A4, h⟩ := bnd h
  rcases ite_e h with ⟨c5, h⟩ | ⟨c5, h⟩
  ·obtain ⟨t4, A6, h⟩ := bnd h
   obtain ⟨bt5, A7, h⟩ := bnd h
   have h := si h; subst h
   exact pth Tryz.func31 [.br false, .r (.s (.i .i64 t3)), .br true, .r (.s (.sl .u32 t4)), .r (.ag [.b bt5.1, .sl .u32 bt5.2])] (fun e => ai (q0 c1) (ai (gnomonref01_Cmp.c A4) (ai (d1 c5) (ai (gnomonref01_Sub.c A6) (ai (gnomonref04_Mk.c A7) e))))) (by kernel_rfl)
  ·obtain ⟨t6, A8, h⟩ := bnd h
   obtain ⟨bt7, A9, h⟩ := bnd h
   have h := si h; subst h
   exact pth Tryz.func31 [.br false, .r (.s (.i .i64 t3)), .br false, .r (.s (.sl .u32 t6)), .r (.ag [.b bt7.1, .sl .u32 bt7.2])] (fun e => ai (q0 c1) (ai (gnomonref01_Cmp.c A4) (ai (d0 c5) (ai (gnomonref01_Sub.c A8) (ai (gnomonref04_Mk.c A9) e))))) (by kernel_rfl)
def gnomonref04_Mul.f (k : Nat) (a0_0 : Bool) (l0_1 : List Int) (a1_0 : Bool) (l1_1 : List Int) : Option (Bool × List Int) := (gnomonref01_Mul.f k l0_1 l1_1).bind fun t1 => ((gnomonref04_Mk.f k (a0_0 != a1_0) t1).bind fun bt2 => (some (bt2.1, bt2.2)))
theorem gnomonref04_Mul.mono : ∀ a0 a1 a2 a3 k, LeO (gnomonref04_Mul.f k a0 a1 a2 a3) (gnomonref04_Mul.f (k + 1) a0 a1 a2 a3) := by
 intro a0 a1 a2 a3 k
 unfold gnomonref04_Mul.f
 repeat' first
  | (with_reducible exact gnomonref01_Mul.mono _ _ _)
  | (with_reducible exact gnomonref04_Mk.mono _ _ _)
  | (with_reducible exact LeO.refl _)
  | (with_reducible exact LeO.none _)
  | (with_reducible refine LeO.ite ?_ ?_)
  | (with_reducible refine LeO.bind ?_ (fun _ => ?_))
theorem gnomonref04_Mul.c {k : Nat} {a0_0 : Bool} {l0_1 : List Int} {a1_0 : Bool} {l1_1 : List Int} {r : Bool × List Int} (h : gnomonref04_Mul.f k a0_0 l0_1 a1_0 l1_1 = some r) : Con Tryz.prog Gw 34 [.ag [.b a0_0, .sl .u32 l0_1], .ag [.b a1_0, .sl .u32 l1_1]] (· = .ag [.b r.1, .sl .u32 r.2]) := by
 unfold gnomonref04_Mul.f at h
 obtain ⟨t1, A1, h⟩ := bnd h
 obtain ⟨bt2, A2, h⟩ := bnd h
 have h := si h; subst h
 exact pth Tryz.func34 [.r (.s (.sl .u32 t1)), .r (.ag [.b bt2.1, .sl .u32 bt2.2])] (fun e => ai (gnomonref01_Mul.c A1) (ai (gnomonref04_Mk.c A2) e)) (by kernel_rfl)
def gnomonref04_Sub.f (k : Nat) (a0_0 : Bool) (l0_1 : List Int) (a1_0 : Bool) (l1_1 : List Int) : Option (Bool × List Int) := (gnomonref04_Flip.f k a1_0 l1_1).bind fun bt1 => ((gnomonref04_Add.f k a0_0 l0_1 bt1.1 bt1.2).bind fun bt2 => (some (bt2.1, bt2.2)))
theorem gnomonref04_Sub.mono : ∀ a0 a1 a2 a3 k, LeO (gnomonref04_Sub.f k a0 a1 a2 a3) (gnomonref04_Sub.f (k + 1) a0 a1 a2 a3) := by
 intro a0 a1 a2 a3 k
 unfold gnomonref04_Sub.f
 repeat' first
  | (with_reducible exact gnomonref04_Add.mono _ _ _ _ _)
  | (with_reducible exact gnomonref04_Flip.mono _ _ _)
  | (with_reducible exact LeO.refl _)
  | (with_reducible exact LeO.none _)
  | (with_reducible refine LeO.ite ?_ ?_)
  | (with_reducible refine LeO.bind ?_ (fun _ => ?_))
theorem gnomonref04_Sub.c {k : Nat} {a0_0 : Bool} {l0_1 : List Int} {a1_0 : Bool} {l1_1 : List Int} {r : Bool × List Int} (h : gnomonref04_Sub.f k a0_0 l0_1 a1_0 l1_1 = some r) : Con Tryz.prog Gw 39 [.ag [.b a0_0, .sl .u32 l0_1], .ag [.b a1_0, .sl .u32 l1_1]] (· = .ag [.b r.1, .sl .u32 r.2]) := by
 unfold gnomonref04_Sub.f at h
 obtain ⟨bt1, A1, h⟩ := bnd h
 obtain ⟨bt2, A2, h⟩ := bnd h
 have h := si h; subst h
 exact pth Tryz.func39 [.r (.ag [.b bt1.1, .sl .u32 bt1.2]), .r (.ag [.b bt2.1, .sl .u32 bt2.2])] (fun e => ai (gnomonref04_Flip.c A1) (ai (gnomonref04_Add.c A2) e)) (by kernel_rfl)
def gnomonref04_Cmp.f (k : Nat) (a0_0 : Bool) (l0_1 : List Int) (a1_0 : Bool) (l1_1 : List Int) : Option (Int) := (gnomonref04_Sub.f k a0_0 l0_1 a1_0 l1_1).bind fun bt1 => ((gnomonref04_Sign.f bt1.1 bt1.2).bind fun t2 => (some t2))
theorem gnomonref04_Cmp.mono : ∀ a0 a1 a2 a3 k, LeO (gnomonref04_Cmp.f k a0 a1 a2 a3) (gnomonref04_Cmp.f (k + 1) a0 a1 a2 a3) := by
 intro a0 a1 a2 a3 k
 unfold gnomonref04_Cmp.f
 repeat' first
  | (with_reducible exact gnomonref04_Sub.mono _ _ _ _ _)
  | (with_reducible exact LeO.refl _)
  | (with_reducible exact LeO.none _)
  | (with_reducible refine LeO.ite ?_ ?_)
  | (with_reducible refine LeO.bind ?_ (fun _ => ?_))
theorem gnomonref04_Cmp.c {k : Nat} {a0_0 : Bool} {l0_1 : List Int} {a1_0 : Bool} {l1_1 : List Int} {r : Int} (h : gnomonref04_Cmp.f k a0_0 l0_1 a1_0 l1_1 = some r) : Con Tryz.prog Gw 38 [.ag [.b a0_0, .sl .u32 l0_1], .ag [.b a1_0, .sl .u32 l1_1]] (· = .s (.i .i64 r)) := by
 unfold gnomonref04_Cmp.f at h
 obtain ⟨bt1, A1, h⟩ := bnd h
 obtain ⟨t2, A2, h⟩ := bnd h
 have h := si h; subst h
 exact pth Tryz.func38 [.r (.ag [.b bt1.1, .sl .u32 bt1.2]), .r (.s (.i .i64 t2))] (fun e => ai (gnomonref04_Sub.c A1) (ai (gnomonref04_Sign.c A2) e)) (by kernel_rfl)
end Go.Proofs.YtokoadgahflafaaGreatDoor.PLib
end
