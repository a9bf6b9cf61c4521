/- Functions of the program as plain Lean functions (definitions as the print's), and that the machine's calls do what they do (contracts 'X.c', by Px). Condition: math/bits' table is laid. -/
import Derived.Test.YtokoadgahflafaaGreatDoorKSoftThroughDoublePxBr
import Derived.Test.YtokoadgahflafaaGreatDoorKSoftThroughDoubleGM
import Derived.Test.YtokoadgahflafaaGreatDoorKSoftThroughDoublePxMul
import Derived.Test.YtokoadgahflafaaGreatDoorKSoftThroughDoublePxR0
import Derived.Test.YtokoadgahflafaaGreatDoorKSoftThroughDoublePxOp
set_option linter.unusedVariables false
namespace Go.Proofs.YtokoadgahflafaaGreatDoor.PLib
open Go Go.RowKit Go.Proofs.YtokoadgahflafaaGreatDoorW.PrintWords Go.Proofs.YtokoadgahflafaaGreatDoorW.PrintMore Go.Proofs.YtokoadgahflafaaGreatDoor.Given Go.Proofs.YtokoadgahflafaaGreatDoor.Px
def dyadic_nought.f (a0_0 : Bool) (l0_1 : List Int) (a0_2 : Int) : Option (Bool) := some ((l0_1.length : Int) == 0)
theorem dyadic_nought.c {a0_0 : Bool} {l0_1 : List Int} {a0_2 : Int} {r : Bool} (h : dyadic_nought.f a0_0 l0_1 a0_2 = some r) : Con Tryz.prog Gw 146 [.ag [.b a0_0, .sl .u64 l0_1, .i .i64 a0_2]] (· = .s (.b r)) := by
 unfold dyadic_nought.f at h
 have h := si h; subst h
 exact pth Tryz.func146 [] (fun e => e) (by kernel_rfl)
def num_Form.f (a0_0 : Bool) (l0_1 : List Int) : Option (Bool) := (nat_Form.f l0_1).bind fun t284 => (if t284 = true then (if a0_0 = true then (some (!((l0_1.length : Int) == 0))) else (some (!false))) else (some false))
theorem num_Form.c {a0_0 : Bool} {l0_1 : List Int} {r : Bool} (h : num_Form.f a0_0 l0_1 = some r) : Con Tryz.prog Gw 152 [.ag [.b a0_0, .sl .u64 l0_1]] (· = .s (.b r)) := by
 unfold num_Form.f at h
 obtain ⟨t284, A1, h⟩ := bnd h
 rcases ite_e h with ⟨c2, h⟩ | ⟨c2, h⟩
 ·rcases ite_e h with ⟨c3, h⟩ | ⟨c3, h⟩
  ·have h := si h; subst h
   exact pth Tryz.func152 [.r (.s (.b t284)), .br true, .br true, .br true, .br true, .br true, .br true, .br true, .br true, .br true, .br true, .br true] (fun e => ai (nat_Form.c A1) (ai c2 (ai c2 (ai c2 (ai c3 (ai c3 (ai c3 (ai c3 (ai c2 (ai c3 (ai c2 (ai c2 e)))))))))))) (by kernel_rfl)
  ·have h := si h; subst h
   exact pth Tryz.func152 [.r (.s (.b t284)), .br true, .br true, .br true, .br false, .br false, .br false, .br false, .br true, .br false, .br true, .br true] (fun e => ai (nat_Form.c A1) (ai c2 (ai c2 (ai c2 (ai (z0 c3) (ai (z0 c3) (ai (z0 c3) (ai (z0 c3) (ai c2 (ai (z0 c3) (ai c2 (ai c2 e)))))))))))) (by kernel_rfl)
 ·have h := si h; subst h
  exact pth Tryz.func152 [.r (.s (.b t284)), .br false, .br false, .br false, .br false, .br false, .br false] (fun e => ai (nat_Form.c A1) (ai (z0 c2) (ai (z0 c2) (ai (z0 c2) (ai (z0 c2) (ai (z0 c2) (ai (z0 c2) e))))))) (by kernel_rfl)
def dyadic_Form.j0 : Nat → Bool → Bool → List Int → Int → Option (Bool)
 | 0, _, _, _, _ => none
 | k + 1, x16, x286000, x286001, x286002 => if x16 = true then (some false) else ((dyadic_nought.f x286000 x286001 x286002).bind fun t287 => (if t287 = true then (some (x286002 == 0)) else (if 0 < (x286001.length : Int) then (some ((Go.bits .and .u64 (rd x286001 0) 1) == 1)) else (none))))
def dyadic_Form.f (k : Nat) (a0_0 : Bool) (l0_1 : List Int) (a0_2 : Int) : Option (Bool) := (num_Form.f a0_0 l0_1).bind fun t286 => (if t286 = true then (if a0_2 < (-1048576) then (dyadic_Form.j0 k true a0_0 l0_1 a0_2) else (dyadic_Form.j0 k (decide (a0_2 > 1048576)) a0_0 l0_1 a0_2)) else (dyadic_Form.j0 k true a0_0 l0_1 a0_2))
theorem dyadic_Form.mono_l : ∀ k, (∀ y0 y1 y2 y3, LeO (dyadic_Form.j0 k y0 y1 y2 y3) (dyadic_Form.j0 (k + 1) y0 y1 y2 y3))
 | 0 => fun _ _ _ _ r h => by simp [dyadic_Form.j0] at h
 | k + 1 => by
  have ih0 := dyadic_Form.mono_l k
  ·intro y0 y1 y2 y3
   unfold dyadic_Form.j0
   repeat' first
   | (with_reducible exact ih0 _ _ _ _)
   | (with_reducible exact LeO.refl _)
   | (with_reducible exact LeO.none _)
   | (with_reducible refine LeO.ite ?_ ?_)
   | (with_reducible refine LeO.bind ?_ (fun _ => ?_))
   | exact ih0 _ _ _ _
   | exact LeO.none _
   | refine LeO.ite ?_ ?_
   | refine LeO.bind ?_ (fun _ => ?_)
theorem dyadic_Form.mono : ∀ a0 a1 a2 k, LeO (dyadic_Form.f k a0 a1 a2) (dyadic_Form.f (k + 1) a0 a1 a2) := by
 intro a0 a1 a2 k
 have ih0 := dyadic_Form.mono_l k
 unfold dyadic_Form.f
 repeat' first
   | (with_reducible exact ih0 _ _ _ _)
   | (with_reducible exact LeO.refl _)
   | (with_reducible exact LeO.none _)
   | (with_reducible refine LeO.ite ?_ ?_)
   | (with_reducible refine LeO.bind ?_ (fun _ => ?_))
   | exact ih0 _ _ _ _
   | exact LeO.none _
   | refine LeO.ite ?_ ?_
   | refine LeO.bind ?_ (fun _ => ?_)
theorem dyadic_Form.jc : ∀ k : Nat, (∀ (x16 : Bool) (x286000 : Bool) (x286001 : List Int) (x286002 : Int) (r : Bool), dyadic_Form.j0 k x16 x286000 x286001 x286002 = some r → Fin Tryz.prog Gw 115 (nav (bodyOf Tryz.f115) [1, 0, 1] []) ⟨mkT 29 [(1, .s (.lo 0 0)), (16, .s (.b x16))], [some (86, [.b x286000, .sl .u64 x286001, .i .i64 x286002])]⟩ (· = .s (.b r)))
 | 0 => (fun _ _ _ _ _ h => nn h)
 | k + 1 => by
  have ih := dyadic_Form.jc k
  ·intro x16 x286000 x286001 x286002 r h
   rw [dyadic_Form.j0] at h
   rcases ite_e h with ⟨c1, h⟩ | ⟨c1, h⟩
   ·have h := si h; subst h
    exact jth Tryz.func115 [.br true] (fun e => ai c1 e) (by kernel_rfl)
   ·obtain ⟨t287, A2, h⟩ := bnd h
    rcases ite_e h with ⟨c3, h⟩ | ⟨c3, h⟩
    ·have h := si h; subst h
     exact jth Tryz.func115 [.br false, .r (.s (.b t287)), .br true] (fun e => ai (z0 c1) (ai (dyadic_nought.c A2) (ai c3 e))) (by kernel_rfl)
    ·rcases ite_e h with ⟨c4, h⟩ | ⟨c4, h⟩
     ·have h := si h; subst h
      exact jth Tryz.func115 [.br false, .r (.s (.b t287)), .br false] (fun e => ai (z0 c1) (ai (dyadic_nought.c A2) (ai (z0 c3) (ai (by decide : (0 : Int) ≤ 0) (ai c4 e))))) (by kernel_rfl)
     ·cases h
theorem dyadic_Form.c {k : Nat} {a0_0 : Bool} {l0_1 : List Int} {a0_2 : Int} {r : Bool} (h : dyadic_Form.f k a0_0 l0_1 a0_2 = some r) : Con Tryz.prog Gw 115 [.ag [.b a0_0, .sl .u64 l0_1, .i .i64 a0_2]] (· = .s (.b r)) := by
 unfold dyadic_Form.f at h
 obtain ⟨t286, A1, h⟩ := bnd h
 rcases ite_e h with ⟨c2, h⟩ | ⟨c2, h⟩
 ·rcases ite_e h with ⟨c3, h⟩ | ⟨c3, h⟩
  ·exact pth Tryz.func115 [.r (.s (.b t286)), .br false, .br false, .br false, .br false, .br true, .br true, .br true, .br true, .cut 0 [1, 16] [0] []] (fun _ => ai (num_Form.c A1) (ai (nt1 c2) (ai (nt1 c2) (ai (nt1 c2) (ai (nt1 c2) (ai (d1 c3) (ai (d1 c3) (ai (d1 c3) (ai (d1 c3) (dyadic_Form.jc k _ _ _ _ _ h)))))))))) (by kernel_rfl)
  ·exact pth Tryz.func115 [.r (.s (.b t286)), .br false, .br false, .br false, .br false, .br false, .br false, .br false, .br false, .cut 0 [1, 16] [0] []] (fun _ => ai (num_Form.c A1) (ai (nt1 c2) (ai (nt1 c2) (ai (nt1 c2) (ai (nt1 c2) (ai (d0 c3) (ai (d0 c3) (ai (d0 c3) (ai (d0 c3) (dyadic_Form.jc k _ _ _ _ _ h)))))))))) (by kernel_rfl)
 ·exact pth Tryz.func115 [.r (.s (.b t286)), .br true, .br true, .br true, .br true, .br true, .br true, .br true, .br true, .cut 0 [1, 16] [0] []] (fun _ => ai (num_Form.c A1) (ai (nt0 (z0 c2)) (ai (nt0 (z0 c2)) (ai (nt0 (z0 c2)) (ai (nt0 (z0 c2)) (ai tt (ai tt (ai tt (ai tt (dyadic_Form.jc k _ _ _ _ _ h)))))))))) (by kernel_rfl)
def round_of.f (a0 : Int) : Option (Int × Int × Int) := if a0 = 32 then (some (24, (-149), 31)) else (if a0 = 64 then (some (53, (-1074), 63)) else (some (0, 0, 0)))
theorem round_of.c {a0 : Int} {r : Int × Int × Int} (h : round_of.f a0 = some r) : Con Tryz.prog Gw 90 [.s (.i .i64 a0)] (· = .ag [.i .i64 r.1, .i .i64 r.2.1, .i .i64 r.2.2]) := by
 unfold round_of.f at h
 rcases ite_e h with ⟨c1, h⟩ | ⟨c1, h⟩
 ·have h := si h; subst h
  exact pth Tryz.func90 [.br true] (fun e => ai (q1 c1) e) (by kernel_rfl)
 ·rcases ite_e h with ⟨c2, h⟩ | ⟨c2, h⟩
  ·have h := si h; subst h
   exact pth Tryz.func90 [.br false, .br true] (fun e => ai (q0 c1) (ai (q1 c2) e)) (by kernel_rfl)
  ·have h := si h; subst h
   exact pth Tryz.func90 [.br false, .br false] (fun e => ai (q0 c1) (ai (q0 c2) e)) (by kernel_rfl)
def round_widths_signed.f (a0_0 : Int) (a0_1 : Int) (a0_2 : Int) (a1 : Bool) (a2 : Int) : Option (Int) := if a1 = true then (if 0 ≤ a0_2 then (some (Go.bits .or .u64 a2 (shl .u64 1 a0_2))) else (none)) else (some a2)
theorem round_widths_signed.c {a0_0 : Int} {a0_1 : Int} {a0_2 : Int} {a1 : Bool} {a2 : Int} {r : Int} (h : round_widths_signed.f a0_0 a0_1 a0_2 a1 a2 = some r) : Con Tryz.prog Gw 91 [.ag [.i .i64 a0_0, .i .i64 a0_1, .i .i64 a0_2], .s (.b a1), .s (.i .u64 a2)] (· = .s (.i .u64 r)) := by
 unfold round_widths_signed.f at h
 rcases ite_e h with ⟨c1, h⟩ | ⟨c1, h⟩
 ·rcases ite_e h with ⟨c2, h⟩ | ⟨c2, h⟩
  ·have h := si h; subst h
   exact pth Tryz.func91 [.br true] (fun e => ai c1 (ai c2 e)) (by kernel_rfl)
  ·cases h
 ·have h := si h; subst h
  exact pth Tryz.func91 [.br false] (fun e => ai (z0 c1) e) (by kernel_rfl)
def num_whole.f (a0 : Bool) (l1 : List Int) : Option (Bool × List Int) := if a0 = true then (some (decide ((l1.length : Int) > 0), l1)) else (some (false, l1))
theorem num_whole.c {a0 : Bool} {l1 : List Int} {r : Bool × List Int} (h : num_whole.f a0 l1 = some r) : Con Tryz.prog Gw 186 [.s (.b a0), .s (.sl .u64 l1)] (· = .ag [.b r.1, .sl .u64 r.2]) := by
 unfold num_whole.f at h
 rcases ite_e h with ⟨c1, h⟩ | ⟨c1, h⟩
 ·have h := si h; subst h
  exact pth Tryz.func186 [.br true, .br true, .br true, .br true] (fun e => ai c1 (ai c1 (ai c1 (ai c1 e)))) (by kernel_rfl)
 ·have h := si h; subst h
  exact pth Tryz.func186 [.br false, .br false, .br false, .br false] (fun e => ai (z0 c1) (ai (z0 c1) (ai (z0 c1) (ai (z0 c1) e)))) (by kernel_rfl)
def num_told.f (a0 : Bool) (l1 : List Int) (a2 : Int) : Option (Bool × List Int × Int) := if a2 = 0 then ((num_whole.f a0 l1).bind fun bt321 => (some (bt321.1, bt321.2, 0))) else (some (false, ([] : List Int), a2))
theorem num_told.c {a0 : Bool} {l1 : List Int} {a2 : Int} {r : Bool × List Int × Int} (h : num_told.f a0 l1 a2 = some r) : Con Tryz.prog Gw 175 [.s (.b a0), .s (.sl .u64 l1), .s (.i .i64 a2)] (· = .tu [.ag [.b r.1, .sl .u64 r.2.1], .s (.i .i64 r.2.2)]) := by
 unfold num_told.f at h
 rcases ite_e h with ⟨c1, h⟩ | ⟨c1, h⟩
 ·obtain ⟨bt321, A2, h⟩ := bnd h
  have h := si h; subst h
  exact pth Tryz.func175 [.br false, .r (.ag [.b bt321.1, .sl .u64 bt321.2])] (fun e => ai (n0 c1) (ai (num_whole.c A2) e)) (by kernel_rfl)
 ·have h := si h; subst h
  exact pth Tryz.func175 [.br true] (fun e => ai (n1 c1) e) (by kernel_rfl)
def num_Shl.f (a0_0 : Bool) (l0_1 : List Int) (a1 : Int) : Option (Bool × List Int × Int) := if a1 < 0 then (some (false, ([] : List Int), 1)) else ((num_Form.f a0_0 l0_1).bind fun t327 => (if t327 = true then ((nat_Shl.f l0_1 a1).bind fun bt328 => ((num_told.f a0_0 bt328.1 bt328.2).bind fun bt332 => (some (bt332.1, bt332.2.1, bt332.2.2)))) else (some (false, ([] : List Int), 2))))
theorem num_Shl.c {a0_0 : Bool} {l0_1 : List Int} {a1 : Int} {r : Bool × List Int × Int} (h : num_Shl.f a0_0 l0_1 a1 = some r) : Con Tryz.prog Gw 148 [.ag [.b a0_0, .sl .u64 l0_1], .s (.i .i64 a1)] (· = .tu [.ag [.b r.1, .sl .u64 r.2.1], .s (.i .i64 r.2.2)]) := by
 unfold num_Shl.f at h
 rcases ite_e h with ⟨c1, h⟩ | ⟨c1, h⟩
 ·have h := si h; subst h
  exact pth Tryz.func148 [.br true] (fun e => ai (d1 c1) e) (by kernel_rfl)
 ·obtain ⟨t327, A2, h⟩ := bnd h
  rcases ite_e h with ⟨c3, h⟩ | ⟨c3, h⟩
  ·obtain ⟨bt328, A4, h⟩ := bnd h
   obtain ⟨bt332, A5, h⟩ := bnd h
   have h := si h; subst h
   exact pth Tryz.func148 [.br false, .r (.s (.b t327)), .br false, .r (.tu [.s (.sl .u64 bt328.1), .s (.i .i64 bt328.2)]), .r (.tu [.ag [.b bt332.1, .sl .u64 bt332.2.1], .s (.i .i64 bt332.2.2)])] (fun e => ai (d0 c1) (ai (num_Form.c A2) (ai (nt1 c3) (ai (nat_Shl.c A4) (ai (num_told.c A5) e))))) (by kernel_rfl)
  ·have h := si h; subst h
   exact pth Tryz.func148 [.br false, .r (.s (.b t327)), .br true] (fun e => ai (d0 c1) (ai (num_Form.c A2) (ai (nt0 (z0 c3)) e))) (by kernel_rfl)
def round_widths_infinity.f (a0_0 : Int) (a0_1 : Int) (a0_2 : Int) : Option (Int) := if 0 ≤ a0_2 then (if 0 ≤ (wrap64 (a0_0 - 1)) then (some (IntKind.u64.wrap ((shl .u64 1 a0_2) - (shl .u64 1 (wrap64 (a0_0 - 1)))))) else (none)) else (none)
theorem round_widths_infinity.c {a0_0 : Int} {a0_1 : Int} {a0_2 : Int} {r : Int} (h : round_widths_infinity.f a0_0 a0_1 a0_2 = some r) : Con Tryz.prog Gw 92 [.ag [.i .i64 a0_0, .i .i64 a0_1, .i .i64 a0_2]] (· = .s (.i .u64 r)) := by
 unfold round_widths_infinity.f at h
 rcases ite_e h with ⟨c1, h⟩ | ⟨c1, h⟩
 ·rcases ite_e h with ⟨c2, h⟩ | ⟨c2, h⟩
  ·have h := si h; subst h
   exact pth Tryz.func92 [] (fun e => ai c1 (ai c2 e)) (by kernel_rfl)
  ·cases h
 ·cases h
def nat_Bit.j0 : Nat → List Int → Int → Bool → Option (Bool)
 | 0, _, _, _ => none
 | k + 1, x0, x1, x13 => if x13 = true then (some false) else (if 0 ≤ (wrap64 (Int.tdiv x1 64)) then (if (wrap64 (Int.tdiv x1 64)) < (x0.length : Int) then (if 0 ≤ (Int.tmod x1 64) then (some ((Go.bits .and .u64 (shr .u64 (rd x0 (wrap64 (Int.tdiv x1 64))) (Int.tmod x1 64)) 1) == 1)) else (none)) else (none)) else (none))
def nat_Bit.f (k : Nat) (l0 : List Int) (a1 : Int) : Option (Bool) := if a1 < 0 then (nat_Bit.j0 k l0 a1 true) else (nat_Bit.j0 k l0 a1 (decide ((wrap64 (Int.tdiv a1 64)) ≥ (l0.length : Int))))
theorem nat_Bit.mono_l : ∀ k, (∀ y0 y1 y2, LeO (nat_Bit.j0 k y0 y1 y2) (nat_Bit.j0 (k + 1) y0 y1 y2))
 | 0 => fun _ _ _ r h => by simp [nat_Bit.j0] at h
 | k + 1 => by
  have ih0 := nat_Bit.mono_l k
  ·intro y0 y1 y2
   unfold nat_Bit.j0
   repeat' first
   | (with_reducible exact ih0 _ _ _)
   | (with_reducible exact LeO.refl _)
   | (with_reducible exact LeO.none _)
   | (with_reducible refine LeO.ite ?_ ?_)
   | (with_reducible refine LeO.bind ?_ (fun _ => ?_))
   | exact ih0 _ _ _
   | exact LeO.none _
   | refine LeO.ite ?_ ?_
   | refine LeO.bind ?_ (fun _ => ?_)
theorem nat_Bit.mono : ∀ a0 a1 k, LeO (nat_Bit.f k a0 a1) (nat_Bit.f (k + 1) a0 a1) := by
 intro a0 a1 k
 have ih0 := nat_Bit.mono_l k
 unfold nat_Bit.f
 repeat' first
   | (with_reducible exact ih0 _ _ _)
   | (with_reducible exact LeO.refl _)
   | (with_reducible exact LeO.none _)
   | (with_reducible refine LeO.ite ?_ ?_)
   | (with_reducible refine LeO.bind ?_ (fun _ => ?_))
   | exact ih0 _ _ _
   | exact LeO.none _
   | refine LeO.ite ?_ ?_
   | refine LeO.bind ?_ (fun _ => ?_)
theorem nat_Bit.jc : ∀ k : Nat, (∀ (x0 : List Int) (x1 : Int) (x13 : Bool) (r : Bool), nat_Bit.j0 k x0 x1 x13 = some r → Fin Tryz.prog Gw 190 (nav (bodyOf Tryz.f190) [1, 0, 1] []) ⟨mkT 24 [(0, .s (.sl .u64 x0)), (1, .s (.i .i64 x1)), (13, .s (.b x13))], []⟩ (· = .s (.b r)))
 | 0 => (fun _ _ _ _ h => nn h)
 | k + 1 => by
  have ih := nat_Bit.jc k
  ·intro x0 x1 x13 r h
   rw [nat_Bit.j0] at h
   rcases ite_e h with ⟨c1, h⟩ | ⟨c1, h⟩
   ·have h := si h; subst h
    exact jth Tryz.func190 [.br true] (fun e => ai c1 e) (by kernel_rfl)
   ·rcases ite_e h with ⟨c2, h⟩ | ⟨c2, h⟩
    ·rcases ite_e h with ⟨c3, h⟩ | ⟨c3, h⟩
     ·rcases ite_e h with ⟨c4, h⟩ | ⟨c4, h⟩
      ·have h := si h; subst h
       exact jth Tryz.func190 [.br false] (fun e => ai (z0 c1) (ai (by decide : (64 : Int) ≠ 0) (ai c2 (ai c3 (ai (by decide : (64 : Int) ≠ 0) (ai c4 e)))))) (by kernel_rfl)
      ·cases h
     ·cases h
    ·cases h
theorem nat_Bit.c {k : Nat} {l0 : List Int} {a1 : Int} {r : Bool} (h : nat_Bit.f k l0 a1 = some r) : Con Tryz.prog Gw 190 [.s (.sl .u64 l0), .s (.i .i64 a1)] (· = .s (.b r)) := by
 unfold nat_Bit.f at h
 rcases ite_e h with ⟨c1, h⟩ | ⟨c1, h⟩
 ·exact pth Tryz.func190 [.br true, .br true, .br true, .br true, .br true, .br true, .cut 0 [0, 1, 13] [] []] (fun _ => ai (d1 c1) (ai (d1 c1) (ai (d1 c1) (ai (d1 c1) (ai (d1 c1) (ai (d1 c1) (nat_Bit.jc k _ _ _ _ h))))))) (by kernel_rfl)
 ·exact pth Tryz.func190 [.br false, .br false, .br false, .br false, .br false, .br false, .cut 0 [0, 1, 13] [] []] (fun _ => ai (d0 c1) (ai (d0 c1) (ai (by decide : (64 : Int) ≠ 0) (ai (d0 c1) (ai (d0 c1) (ai (d0 c1) (ai (d0 c1) (nat_Bit.jc k _ _ _ _ h)))))))) (by kernel_rfl)
def num_way_more.f (a0 : Int) (a1 : Bool) (a2 : Bool) (a3 : Bool) (a4 : Int) : Option (Bool) := if a0 = 0 then (if a1 = true then (some a3) else (some false)) else (if a0 = 1 then (if a1 = true then (some false) else (some a3)) else (if a4 > 0 then (some true) else (if a4 = 0 then (some a2) else (some false))))
theorem num_way_more.c {a0 : Int} {a1 : Bool} {a2 : Bool} {a3 : Bool} {a4 : Int} {r : Bool} (h : num_way_more.f a0 a1 a2 a3 a4 = some r) : Con Tryz.prog Gw 194 [.s (.i .i64 a0), .s (.b a1), .s (.b a2), .s (.b a3), .s (.i .i64 a4)] (· = .s (.b r)) := by
 unfold num_way_more.f at h
 rcases ite_e h with ⟨c1, h⟩ | ⟨c1, h⟩
 ·rcases ite_e h with ⟨c2, h⟩ | ⟨c2, h⟩
  ·have h := si h; subst h
   exact pth Tryz.func194 [.br true, .br true, .br true] (fun e => ai (q1 c1) (ai c2 (ai c2 e))) (by kernel_rfl)
  ·have h := si h; subst h
   exact pth Tryz.func194 [.br true, .br false, .br false] (fun e => ai (q1 c1) (ai (z0 c2) (ai (z0 c2) e))) (by kernel_rfl)
 ·rcases ite_e h with ⟨c3, h⟩ | ⟨c3, h⟩
  ·rcases ite_e h with ⟨c4, h⟩ | ⟨c4, h⟩
   ·have h := si h; subst h
    exact pth Tryz.func194 [.br false, .br true, .br false, .br false] (fun e => ai (q0 c1) (ai (q1 c3) (ai (nt1 c4) (ai (nt1 c4) e)))) (by kernel_rfl)
   ·have h := si h; subst h
    exact pth Tryz.func194 [.br false, .br true, .br true, .br true] (fun e => ai (q0 c1) (ai (q1 c3) (ai (nt0 (z0 c4)) (ai (nt0 (z0 c4)) e)))) (by kernel_rfl)
  ·rcases ite_e h with ⟨c5, h⟩ | ⟨c5, h⟩
   ·have h := si h; subst h
    exact pth Tryz.func194 [.br false, .br false, .br true, .br true, .br true, .br true, .br true] (fun e => ai (q0 c1) (ai (q0 c3) (ai (d1 c5) (ai (d1 c5) (ai (d1 c5) (ai (d1 c5) (ai (d1 c5) e))))))) (by kernel_rfl)
   ·rcases ite_e h with ⟨c6, h⟩ | ⟨c6, h⟩
    ·have h := si h; subst h
     exact pth Tryz.func194 [.br false, .br false, .br false, .br false, .br false, .br true, .br false, .br true, .br false] (fun e => ai (q0 c1) (ai (q0 c3) (ai (d0 c5) (ai (d0 c5) (ai (d0 c5) (ai (q1 c6) (ai (d0 c5) (ai (q1 c6) (ai (d0 c5) e))))))))) (by kernel_rfl)
    ·have h := si h; subst h
     exact pth Tryz.func194 [.br false, .br false, .br false, .br false, .br false, .br false, .br false, .br false, .br false] (fun e => ai (q0 c1) (ai (q0 c3) (ai (d0 c5) (ai (d0 c5) (ai (d0 c5) (ai (q0 c6) (ai (d0 c5) (ai (q0 c6) (ai (d0 c5) e))))))))) (by kernel_rfl)
def num_way_made.f (k : Nat) (a0 : Int) (a1 : Bool) (l2 : List Int) (a3 : Bool) (a4 : Int) : Option (Bool × List Int × Int) := (nat_Bit.f k l2 0).bind fun t343 => ((num_way_more.f a0 a1 t343 a3 a4).bind fun t344 => (if t344 = true then ((nat_Word.f 1).bind fun t350 => ((nat_Add.f l2 t350).bind fun bt353 => ((num_told.f a1 bt353.1 bt353.2).bind fun bt357 => (some (bt357.1, bt357.2.1, bt357.2.2))))) else ((num_told.f a1 l2 0).bind fun bt345 => (some (bt345.1, bt345.2.1, bt345.2.2)))))
theorem num_way_made.mono : ∀ a0 a1 a2 a3 a4 k, LeO (num_way_made.f k a0 a1 a2 a3 a4) (num_way_made.f (k + 1) a0 a1 a2 a3 a4) := by
 intro a0 a1 a2 a3 a4 k
 unfold num_way_made.f
 repeat' first
   | (with_reducible exact nat_Bit.mono _ _ _)
   | (with_reducible exact LeO.refl _)
   | (with_reducible exact LeO.none _)
   | (with_reducible refine LeO.ite ?_ ?_)
   | (with_reducible refine LeO.bind ?_ (fun _ => ?_))
   | exact nat_Bit.mono _ _ _
   | exact LeO.none _
   | refine LeO.ite ?_ ?_
   | refine LeO.bind ?_ (fun _ => ?_)
theorem num_way_made.c {k : Nat} {a0 : Int} {a1 : Bool} {l2 : List Int} {a3 : Bool} {a4 : Int} {r : Bool × List Int × Int} (h : num_way_made.f k a0 a1 l2 a3 a4 = some r) : Con Tryz.prog Gw 191 [.s (.i .i64 a0), .s (.b a1), .s (.sl .u64 l2), .s (.b a3), .s (.i .i64 a4)] (· = .tu [.ag [.b r.1, .sl .u64 r.2.1], .s (.i .i64 r.2.2)]) := by
 unfold num_way_made.f at h
 obtain ⟨t343, A1, h⟩ := bnd h
 obtain ⟨t344, A2, h⟩ := bnd h
 rcases ite_e h with ⟨c3, h⟩ | ⟨c3, h⟩
 ·obtain ⟨t350, A4, h⟩ := bnd h
  obtain ⟨bt353, A5, h⟩ := bnd h
  obtain ⟨bt357, A6, h⟩ := bnd h
  have h := si h; subst h
  exact pth Tryz.func191 [.r (.s (.b t343)), .r (.s (.b t344)), .br false, .r (.s (.sl .u64 t350)), .r (.tu [.s (.sl .u64 bt353.1), .s (.i .i64 bt353.2)]), .r (.tu [.ag [.b bt357.1, .sl .u64 bt357.2.1], .s (.i .i64 bt357.2.2)])] (fun e => ai (nat_Bit.c A1) (ai (num_way_more.c A2) (ai (nt1 c3) (ai (nat_Word.c A4) (ai (nat_Add.c A5) (ai (num_told.c A6) e)))))) (by kernel_rfl)
 ·obtain ⟨bt345, A7, h⟩ := bnd h
  have h := si h; subst h
  exact pth Tryz.func191 [.r (.s (.b t343)), .r (.s (.b t344)), .br true, .r (.tu [.ag [.b bt345.1, .sl .u64 bt345.2.1], .s (.i .i64 bt345.2.2)])] (fun e => ai (nat_Bit.c A1) (ai (num_way_more.c A2) (ai (nt0 (z0 c3)) (ai (num_told.c A7) e)))) (by kernel_rfl)
def num_way_shr.j0 : Nat → Int → Int → List Int → Bool → Bool → List Int → Option (Bool × List Int × Int)
 | 0, _, _, _, _, _, _ => none
 | k + 1, x0, x2, x8, x10, x363000, x363001 => (nat_Bit.f k x363001 (wrap64 (x2 - 1))).bind fun t370 => (if t370 = true then ((nat_Trail.f x363001).bind fun t371 => (if t371 = (wrap64 (x2 - 1)) then ((num_way_made.f k x0 x363000 x8 x10 0).bind fun bt372 => (some (bt372.1, bt372.2.1, bt372.2.2))) else ((num_way_made.f k x0 x363000 x8 x10 1).bind fun bt377 => (some (bt377.1, bt377.2.1, bt377.2.2))))) else ((num_way_made.f k x0 x363000 x8 x10 (-1)).bind fun bt382 => (some (bt382.1, bt382.2.1, bt382.2.2))))
def num_way_shr.f (k : Nat) (a0 : Int) (a1_0 : Bool) (l1_1 : List Int) (a2 : Int) : Option (Bool × List Int × Int) := if a2 < 0 then (some (false, ([] : List Int), 1)) else ((num_Form.f a1_0 l1_1).bind fun t364 => (if t364 = true then ((nat_Shr.f l1_1 a2).bind fun bt365 => (if bt365.2 = 0 then (if (l1_1.length : Int) > 0 then ((nat_Trail.f l1_1).bind fun t369 => (num_way_shr.j0 k a0 a2 bt365.1 (decide (t369 < a2)) a1_0 l1_1)) else (num_way_shr.j0 k a0 a2 bt365.1 false a1_0 l1_1)) else (some (false, ([] : List Int), bt365.2)))) else (some (false, ([] : List Int), 2))))
theorem num_way_shr.mono_l : ∀ k, (∀ y0 y1 y2 y3 y4 y5, LeO (num_way_shr.j0 k y0 y1 y2 y3 y4 y5) (num_way_shr.j0 (k + 1) y0 y1 y2 y3 y4 y5))
 | 0 => fun _ _ _ _ _ _ r h => by simp [num_way_shr.j0] at h
 | k + 1 => by
  have ih0 := num_way_shr.mono_l k
  ·intro y0 y1 y2 y3 y4 y5
   unfold num_way_shr.j0
   repeat' first
   | (with_reducible exact ih0 _ _ _ _ _ _)
   | (with_reducible exact nat_Bit.mono _ _ _)
   | (with_reducible exact num_way_made.mono _ _ _ _ _ _)
   | (with_reducible exact LeO.refl _)
   | (with_reducible exact LeO.none _)
   | (with_reducible refine LeO.ite ?_ ?_)
   | (with_reducible refine LeO.bind ?_ (fun _ => ?_))
   | exact ih0 _ _ _ _ _ _
   | exact nat_Bit.mono _ _ _
   | exact num_way_made.mono _ _ _ _ _ _
   | exact LeO.none _
   | refine LeO.ite ?_ ?_
   | refine LeO.bind ?_ (fun _ => ?_)
theorem num_way_shr.mono : ∀ a0 a1 a2 a3 k, LeO (num_way_shr.f k a0 a1 a2 a3) (num_way_shr.f (k + 1) a0 a1 a2 a3) := by
 intro a0 a1 a2 a3 k
 have ih0 := num_way_shr.mono_l k
 unfold num_way_shr.f
 repeat' first
   | (with_reducible exact ih0 _ _ _ _ _ _)
   | (with_reducible exact nat_Bit.mono _ _ _)
   | (with_reducible exact num_way_made.mono _ _ _ _ _ _)
   | (with_reducible exact LeO.refl _)
   | (with_reducible exact LeO.none _)
   | (with_reducible refine LeO.ite ?_ ?_)
   | (with_reducible refine LeO.bind ?_ (fun _ => ?_))
   | exact ih0 _ _ _ _ _ _
   | exact nat_Bit.mono _ _ _
   | exact num_way_made.mono _ _ _ _ _ _
   | exact LeO.none _
   | refine LeO.ite ?_ ?_
   | refine LeO.bind ?_ (fun _ => ?_)
theorem num_way_shr.jc : ∀ k : Nat, (∀ (x0 : Int) (x2 : Int) (x8 : List Int) (x10 : Bool) (x363000 : Bool) (x363001 : List Int) (r : Bool × List Int × Int), num_way_shr.j0 k x0 x2 x8 x10 x363000 x363001 = some r → Fin Tryz.prog Gw 182 (nav (bodyOf Tryz.f182) [1, 1, 1, 1, 1, 1, 0] []) ⟨mkT 61 [(0, .s (.i .i64 x0)), (2, .s (.i .i64 x2)), (4, .s (.lo 0 0)), (6, .s (.lo 1 0)), (8, .s (.sl .u64 x8)), (10, .s (.b x10))], [some (84, [.b x363000, .sl .u64 x363001]), some (84, [.b false, .sl .u64 ([])])]⟩ (· = .tu [.ag [.b r.1, .sl .u64 r.2.1], .s (.i .i64 r.2.2)]))
 | 0 => (fun _ _ _ _ _ _ _ h => nn h)
 | k + 1 => by
  have ih := num_way_shr.jc k
  ·intro x0 x2 x8 x10 x363000 x363001 r h
   rw [num_way_shr.j0] at h
   obtain ⟨t370, A1, h⟩ := bnd h
   rcases ite_e h with ⟨c2, h⟩ | ⟨c2, h⟩
   ·obtain ⟨t371, A3, h⟩ := bnd h
    rcases ite_e h with ⟨c4, h⟩ | ⟨c4, h⟩
    ·obtain ⟨bt372, A5, h⟩ := bnd h
     have h := si h; subst h
     exact jth Tryz.func182 [.r (.s (.b t370)), .br true, .r (.s (.i .i64 t371)), .br true, .r (.tu [.ag [.b bt372.1, .sl .u64 bt372.2.1], .s (.i .i64 bt372.2.2)])] (fun e => ai (nat_Bit.c A1) (ai c2 (ai (nat_Trail.c A3) (ai (q1 c4) (ai (num_way_made.c A5) e))))) (by kernel_rfl)
    ·obtain ⟨bt377, A6, h⟩ := bnd h
     have h := si h; subst h
     exact jth Tryz.func182 [.r (.s (.b t370)), .br true, .r (.s (.i .i64 t371)), .br false, .r (.tu [.ag [.b bt377.1, .sl .u64 bt377.2.1], .s (.i .i64 bt377.2.2)])] (fun e => ai (nat_Bit.c A1) (ai c2 (ai (nat_Trail.c A3) (ai (q0 c4) (ai (num_way_made.c A6) e))))) (by kernel_rfl)
   ·obtain ⟨bt382, A7, h⟩ := bnd h
    have h := si h; subst h
    exact jth Tryz.func182 [.r (.s (.b t370)), .br false, .r (.tu [.ag [.b bt382.1, .sl .u64 bt382.2.1], .s (.i .i64 bt382.2.2)])] (fun e => ai (nat_Bit.c A1) (ai (z0 c2) (ai (num_way_made.c A7) e))) (by kernel_rfl)
theorem num_way_shr.c {k : Nat} {a0 : Int} {a1_0 : Bool} {l1_1 : List Int} {a2 : Int} {r : Bool × List Int × Int} (h : num_way_shr.f k a0 a1_0 l1_1 a2 = some r) : Con Tryz.prog Gw 182 [.s (.i .i64 a0), .ag [.b a1_0, .sl .u64 l1_1], .s (.i .i64 a2)] (· = .tu [.ag [.b r.1, .sl .u64 r.2.1], .s (.i .i64 r.2.2)]) := by
 unfold num_way_shr.f at h
 rcases ite_e h with ⟨c1, h⟩ | ⟨c1, h⟩
 ·have h := si h; subst h
  exact pth Tryz.func182 [.br true] (fun e => ai (d1 c1) e) (by kernel_rfl)
 ·obtain ⟨t364, A2, h⟩ := bnd h
  rcases ite_e h with ⟨c3, h⟩ | ⟨c3, h⟩
  ·obtain ⟨bt365, A4, h⟩ := bnd h
   rcases ite_e h with ⟨c5, h⟩ | ⟨c5, h⟩
   ·rcases ite_e h with ⟨c6, h⟩ | ⟨c6, h⟩
    ·obtain ⟨t369, A7, h⟩ := bnd h
     exact pth Tryz.func182 [.br false, .r (.s (.b t364)), .br false, .r (.tu [.s (.sl .u64 bt365.1), .s (.i .i64 bt365.2)]), .br false, .br true, .br true, .br true, .r (.s (.i .i64 t369)), .br true, .br true, .br true, .cut 0 [0, 2, 4, 6, 8, 10] [0, 1] []] (fun _ => ai (d0 c1) (ai (num_Form.c A2) (ai (nt1 c3) (ai (nat_Shr.c A4) (ai (n0 c5) (ai (d1 c6) (ai (d1 c6) (ai (d1 c6) (ai (nat_Trail.c A7) (ai (d1 c6) (ai (d1 c6) (ai (d1 c6) (num_way_shr.jc k _ _ _ _ _ _ _ h))))))))))))) (by kernel_rfl)
    ·exact pth Tryz.func182 [.br false, .r (.s (.b t364)), .br false, .r (.tu [.s (.sl .u64 bt365.1), .s (.i .i64 bt365.2)]), .br false, .br false, .br false, .br false, .br false, .br false, .br false, .cut 0 [0, 2, 4, 6, 8, 10] [0, 1] []] (fun _ => ai (d0 c1) (ai (num_Form.c A2) (ai (nt1 c3) (ai (nat_Shr.c A4) (ai (n0 c5) (ai (d0 c6) (ai (d0 c6) (ai (d0 c6) (ai (d0 c6) (ai (d0 c6) (ai (d0 c6) (num_way_shr.jc k _ _ _ _ _ _ _ h)))))))))))) (by kernel_rfl)
   ·have h := si h; subst h
    exact pth Tryz.func182 [.br false, .r (.s (.b t364)), .br false, .r (.tu [.s (.sl .u64 bt365.1), .s (.i .i64 bt365.2)]), .br true] (fun e => ai (d0 c1) (ai (num_Form.c A2) (ai (nt1 c3) (ai (nat_Shr.c A4) (ai (n1 c5) e))))) (by kernel_rfl)
  ·have h := si h; subst h
   exact pth Tryz.func182 [.br false, .r (.s (.b t364)), .br true] (fun e => ai (d0 c1) (ai (num_Form.c A2) (ai (nt0 (z0 c3)) e))) (by kernel_rfl)
def num_NearShr.f (k : Nat) (a0_0 : Bool) (l0_1 : List Int) (a1 : Int) : Option (Bool × List Int × Int) := (num_way_shr.f k 2 a0_0 l0_1 a1).bind fun bt389 => (some (bt389.1, bt389.2.1, bt389.2.2))
theorem num_NearShr.mono : ∀ a0 a1 a2 k, LeO (num_NearShr.f k a0 a1 a2) (num_NearShr.f (k + 1) a0 a1 a2) := by
 intro a0 a1 a2 k
 unfold num_NearShr.f
 repeat' first
   | (with_reducible exact num_way_shr.mono _ _ _ _ _)
   | (with_reducible exact LeO.refl _)
   | (with_reducible exact LeO.none _)
   | (with_reducible refine LeO.ite ?_ ?_)
   | (with_reducible refine LeO.bind ?_ (fun _ => ?_))
   | exact num_way_shr.mono _ _ _ _ _
   | exact LeO.none _
   | refine LeO.ite ?_ ?_
   | refine LeO.bind ?_ (fun _ => ?_)
theorem num_NearShr.c {k : Nat} {a0_0 : Bool} {l0_1 : List Int} {a1 : Int} {r : Bool × List Int × Int} (h : num_NearShr.f k a0_0 l0_1 a1 = some r) : Con Tryz.prog Gw 164 [.ag [.b a0_0, .sl .u64 l0_1], .s (.i .i64 a1)] (· = .tu [.ag [.b r.1, .sl .u64 r.2.1], .s (.i .i64 r.2.2)]) := by
 unfold num_NearShr.f at h
 obtain ⟨bt389, A1, h⟩ := bnd h
 have h := si h; subst h
 exact pth Tryz.func164 [.r (.tu [.ag [.b bt389.1, .sl .u64 bt389.2.1], .s (.i .i64 bt389.2.2)])] (fun e => ai (num_way_shr.c A1) e) (by kernel_rfl)
def round_widths_size.j0 : Nat → Int → Int → Int → Int → Bool → List Int → Option (Int)
 | 0, _, _, _, _, _, _ => none
 | k + 1, x8, x395000, x395001, x395002, x398000, x398001 => if (x398001.length : Int) > 0 then (if 0 < (x398001.length : Int) then (if 0 ≤ (wrap64 (x395000 - 1)) then ((round_widths_infinity.f x395000 x395001 x395002).bind fun t409 => (some (mn (IntKind.u64.wrap ((shl .u64 (IntKind.u64.wrap (wrap64 (x8 - x395001))) (wrap64 (x395000 - 1))) + (rd x398001 0))) t409))) else (none)) else (none)) else (if 0 ≤ (wrap64 (x395000 - 1)) then ((round_widths_infinity.f x395000 x395001 x395002).bind fun t410 => (some (mn (IntKind.u64.wrap ((shl .u64 (IntKind.u64.wrap (wrap64 (x8 - x395001))) (wrap64 (x395000 - 1))) + 0)) t410))) else (none))
def round_widths_size.f (k : Nat) (a0_0 : Int) (a0_1 : Int) (a0_2 : Int) (l1 : List Int) (a2 : Int) : Option (Int) := (nat_Bits.f l1).bind fun t395 => (if (wrap64 ((wrap64 (a2 + t395)) - 1)) > 1100 then ((round_widths_infinity.f a0_0 a0_1 a0_2).bind fun t396 => (some t396)) else (if (mx (wrap64 ((wrap64 ((wrap64 ((wrap64 (a2 + t395)) - 1)) - a0_0)) + 1)) a0_1) ≥ a2 then ((num_NearShr.f k false l1 (wrap64 ((mx (wrap64 ((wrap64 ((wrap64 ((wrap64 (a2 + t395)) - 1)) - a0_0)) + 1)) a0_1) - a2))).bind fun bt398 => (round_widths_size.j0 k (mx (wrap64 ((wrap64 ((wrap64 ((wrap64 (a2 + t395)) - 1)) - a0_0)) + 1)) a0_1) a0_0 a0_1 a0_2 bt398.1 bt398.2.1)) else ((num_Shl.f false l1 (wrap64 (a2 - (mx (wrap64 ((wrap64 ((wrap64 ((wrap64 (a2 + t395)) - 1)) - a0_0)) + 1)) a0_1)))).bind fun bt403 => (round_widths_size.j0 k (mx (wrap64 ((wrap64 ((wrap64 ((wrap64 (a2 + t395)) - 1)) - a0_0)) + 1)) a0_1) a0_0 a0_1 a0_2 bt403.1 bt403.2.1))))
theorem round_widths_size.mono_l : ∀ k, (∀ y0 y1 y2 y3 y4 y5, LeO (round_widths_size.j0 k y0 y1 y2 y3 y4 y5) (round_widths_size.j0 (k + 1) y0 y1 y2 y3 y4 y5))
 | 0 => fun _ _ _ _ _ _ r h => by simp [round_widths_size.j0] at h
 | k + 1 => by
  have ih0 := round_widths_size.mono_l k
  ·intro y0 y1 y2 y3 y4 y5
   unfold round_widths_size.j0
   repeat' first
   | (with_reducible exact ih0 _ _ _ _ _ _)
   | (with_reducible exact num_NearShr.mono _ _ _ _)
   | (with_reducible exact LeO.refl _)
   | (with_reducible exact LeO.none _)
   | (with_reducible refine LeO.ite ?_ ?_)
   | (with_reducible refine LeO.bind ?_ (fun _ => ?_))
   | exact ih0 _ _ _ _ _ _
   | exact num_NearShr.mono _ _ _ _
   | exact LeO.none _
   | refine LeO.ite ?_ ?_
   | refine LeO.bind ?_ (fun _ => ?_)
theorem round_widths_size.mono : ∀ a0 a1 a2 a3 a4 k, LeO (round_widths_size.f k a0 a1 a2 a3 a4) (round_widths_size.f (k + 1) a0 a1 a2 a3 a4) := by
 intro a0 a1 a2 a3 a4 k
 have ih0 := round_widths_size.mono_l k
 unfold round_widths_size.f
 repeat' first
   | (with_reducible exact ih0 _ _ _ _ _ _)
   | (with_reducible exact num_NearShr.mono _ _ _ _)
   | (with_reducible exact LeO.refl _)
   | (with_reducible exact LeO.none _)
   | (with_reducible refine LeO.ite ?_ ?_)
   | (with_reducible refine LeO.bind ?_ (fun _ => ?_))
   | exact ih0 _ _ _ _ _ _
   | exact num_NearShr.mono _ _ _ _
   | exact LeO.none _
   | refine LeO.ite ?_ ?_
   | refine LeO.bind ?_ (fun _ => ?_)
theorem round_widths_size.jc : ∀ k : Nat, (∀ (x8 : Int) (x395000 : Int) (x395001 : Int) (x395002 : Int) (x398000 : Bool) (x398001 : List Int) (r : Int), round_widths_size.j0 k x8 x395000 x395001 x395002 x398000 x398001 = some r → Fin Tryz.prog Gw 120 (nav (bodyOf Tryz.f120) [1, 1, 1, 1, 1, 1, 0] []) ⟨mkT 71 [(3, .s (.lo 0 0)), (8, .s (.i .i64 x8)), (9, .s (.lo 1 0))], [some (126, [.i .i64 x395000, .i .i64 x395001, .i .i64 x395002]), some (84, [.b x398000, .sl .u64 x398001])]⟩ (· = .s (.i .u64 r)))
 | 0 => (fun _ _ _ _ _ _ _ h => nn h)
 | k + 1 => by
  have ih := round_widths_size.jc k
  ·intro x8 x395000 x395001 x395002 x398000 x398001 r h
   rw [round_widths_size.j0] at h
   rcases ite_e h with ⟨c1, h⟩ | ⟨c1, h⟩
   ·rcases ite_e h with ⟨c2, h⟩ | ⟨c2, h⟩
    ·rcases ite_e h with ⟨c3, h⟩ | ⟨c3, h⟩
     ·obtain ⟨t409, A4, h⟩ := bnd h
      have h := si h; subst h
      exact jth Tryz.func120 [.br true, .r (.s (.i .u64 t409))] (fun e => ai (d1 c1) (ai (by decide : (0 : Int) ≤ 0) (ai c2 (ai c3 (ai (round_widths_infinity.c A4) e))))) (by kernel_rfl)
     ·cases h
    ·cases h
   ·rcases ite_e h with ⟨c5, h⟩ | ⟨c5, h⟩
    ·obtain ⟨t410, A6, h⟩ := bnd h
     have h := si h; subst h
     exact jth Tryz.func120 [.br false, .r (.s (.i .u64 t410))] (fun e => ai (d0 c1) (ai c5 (ai (round_widths_infinity.c A6) e))) (by kernel_rfl)
    ·cases h
theorem round_widths_size.c {k : Nat} {a0_0 : Int} {a0_1 : Int} {a0_2 : Int} {l1 : List Int} {a2 : Int} {r : Int} (h : round_widths_size.f k a0_0 a0_1 a0_2 l1 a2 = some r) : Con Tryz.prog Gw 120 [.ag [.i .i64 a0_0, .i .i64 a0_1, .i .i64 a0_2], .s (.sl .u64 l1), .s (.i .i64 a2)] (· = .s (.i .u64 r)) := by
 unfold round_widths_size.f at h
 obtain ⟨t395, A1, h⟩ := bnd h
 rcases ite_e h with ⟨c2, h⟩ | ⟨c2, h⟩
 ·obtain ⟨t396, A3, h⟩ := bnd h
  have h := si h; subst h
  exact pth Tryz.func120 [.r (.s (.i .i64 t395)), .br true, .r (.s (.i .u64 t396))] (fun e => ai (nat_Bits.c A1) (ai (d1 c2) (ai (round_widths_infinity.c A3) e))) (by kernel_rfl)
 ·rcases ite_e h with ⟨c4, h⟩ | ⟨c4, h⟩
  ·obtain ⟨bt398, A5, h⟩ := bnd h
   exact pth Tryz.func120 [.r (.s (.i .i64 t395)), .br false, .br true, .r (.tu [.ag [.b bt398.1, .sl .u64 bt398.2.1], .s (.i .i64 bt398.2.2)]), .cut 0 [3, 8, 9] [0, 1] []] (fun _ => ai (nat_Bits.c A1) (ai (d0 c2) (ai (d1 c4) (ai (num_NearShr.c A5) (round_widths_size.jc k _ _ _ _ _ _ _ h))))) (by kernel_rfl)
  ·obtain ⟨bt403, A6, h⟩ := bnd h
   exact pth Tryz.func120 [.r (.s (.i .i64 t395)), .br false, .br false, .r (.tu [.ag [.b bt403.1, .sl .u64 bt403.2.1], .s (.i .i64 bt403.2.2)]), .cut 0 [3, 8, 9] [0, 1] []] (fun _ => ai (nat_Bits.c A1) (ai (d0 c2) (ai (d0 c4) (ai (num_Shl.c A6) (round_widths_size.jc k _ _ _ _ _ _ _ h))))) (by kernel_rfl)
def round_Nearest.f (k : Nat) (a0 : Int) (a1_0 : Bool) (l1_1 : List Int) (a1_2 : Int) : Option (Int × Int) := (round_of.f a0).bind fun bt412 => (if (bt412.1 == 0 && (bt412.2.1 == 0 && (bt412.2.2 == 0))) = true then (some (0, 1)) else ((dyadic_Form.f k a1_0 l1_1 a1_2).bind fun t416 => (if t416 = true then (if (l1_1.length : Int) = 0 then (some (0, 0)) else ((round_widths_size.f k bt412.1 bt412.2.1 bt412.2.2 l1_1 a1_2).bind fun t417 => ((round_widths_signed.f bt412.1 bt412.2.1 bt412.2.2 a1_0 t417).bind fun t418 => (some (t418, 0))))) else (some (0, 2)))))
theorem round_Nearest.mono : ∀ a0 a1 a2 a3 k, LeO (round_Nearest.f k a0 a1 a2 a3) (round_Nearest.f (k + 1) a0 a1 a2 a3) := by
 intro a0 a1 a2 a3 k
 unfold round_Nearest.f
 repeat' first
   | (with_reducible exact dyadic_Form.mono _ _ _ _)
   | (with_reducible exact round_widths_size.mono _ _ _ _ _ _)
   | (with_reducible exact LeO.refl _)
   | (with_reducible exact LeO.none _)
   | (with_reducible refine LeO.ite ?_ ?_)
   | (with_reducible refine LeO.bind ?_ (fun _ => ?_))
   | exact dyadic_Form.mono _ _ _ _
   | exact round_widths_size.mono _ _ _ _ _ _
   | exact LeO.none _
   | refine LeO.ite ?_ ?_
   | refine LeO.bind ?_ (fun _ => ?_)
theorem round_Nearest.c {k : Nat} {a0 : Int} {a1_0 : Bool} {l1_1 : List Int} {a1_2 : Int} {r : Int × Int} (h : round_Nearest.f k a0 a1_0 l1_1 a1_2 = some r) : Con Tryz.prog Gw 94 [.s (.i .i64 a0), .ag [.b a1_0, .sl .u64 l1_1, .i .i64 a1_2]] (· = .tu [.s (.i .u64 r.1), .s (.i .i64 r.2)]) := by
 unfold round_Nearest.f at h
 obtain ⟨bt412, A1, h⟩ := bnd h
 rcases ite_e h with ⟨c2, h⟩ | ⟨c2, h⟩
 ·have h := si h; subst h
  exact pth Tryz.func94 [.r (.ag [.i .i64 bt412.1, .i .i64 bt412.2.1, .i .i64 bt412.2.2]), .br true] (fun e => ai (round_of.c A1) (ai c2 e)) (by kernel_rfl)
 ·obtain ⟨t416, A3, h⟩ := bnd h
  rcases ite_e h with ⟨c4, h⟩ | ⟨c4, h⟩
  ·rcases ite_e h with ⟨c5, h⟩ | ⟨c5, h⟩
   ·have h := si h; subst h
    exact pth Tryz.func94 [.r (.ag [.i .i64 bt412.1, .i .i64 bt412.2.1, .i .i64 bt412.2.2]), .br false, .r (.s (.b t416)), .br false, .br true] (fun e => ai (round_of.c A1) (ai (z0 c2) (ai (dyadic_Form.c A3) (ai (nt1 c4) (ai (q1 c5) e))))) (by kernel_rfl)
   ·obtain ⟨t417, A6, h⟩ := bnd h
    obtain ⟨t418, A7, h⟩ := bnd h
    have h := si h; subst h
    exact pth Tryz.func94 [.r (.ag [.i .i64 bt412.1, .i .i64 bt412.2.1, .i .i64 bt412.2.2]), .br false, .r (.s (.b t416)), .br false, .br false, .r (.s (.i .u64 t417)), .r (.s (.i .u64 t418))] (fun e => ai (round_of.c A1) (ai (z0 c2) (ai (dyadic_Form.c A3) (ai (nt1 c4) (ai (q0 c5) (ai (round_widths_size.c A6) (ai (round_widths_signed.c A7) e))))))) (by kernel_rfl)
  ·have h := si h; subst h
   exact pth Tryz.func94 [.r (.ag [.i .i64 bt412.1, .i .i64 bt412.2.1, .i .i64 bt412.2.2]), .br false, .r (.s (.b t416)), .br true] (fun e => ai (round_of.c A1) (ai (z0 c2) (ai (dyadic_Form.c A3) (ai (nt0 (z0 c4)) e)))) (by kernel_rfl)
def binary_shape_sign.f (a0_0 : Int) (a0_1 : Int) (a0_2 : Int) (a0_3 : Int) : Option (Int) := if 0 ≤ (wrap64 (a0_0 - 1)) then (some (shl .u64 1 (wrap64 (a0_0 - 1)))) else (none)
theorem binary_shape_sign.c {a0_0 : Int} {a0_1 : Int} {a0_2 : Int} {a0_3 : Int} {r : Int} (h : binary_shape_sign.f a0_0 a0_1 a0_2 a0_3 = some r) : Con Tryz.prog Gw 129 [.ag [.i .i64 a0_0, .i .i64 a0_1, .i .i64 a0_2, .i .u64 a0_3]] (· = .s (.i .u64 r)) := by
 unfold binary_shape_sign.f at h
 rcases ite_e h with ⟨c1, h⟩ | ⟨c1, h⟩
 ·have h := si h; subst h
  exact pth Tryz.func129 [] (fun e => ai c1 e) (by kernel_rfl)
 ·cases h
def binary_shape_hidden.f (a0_0 : Int) (a0_1 : Int) (a0_2 : Int) (a0_3 : Int) : Option (Int) := if 0 ≤ (wrap64 (a0_1 - 1)) then (some (shl .u64 1 (wrap64 (a0_1 - 1)))) else (none)
theorem binary_shape_hidden.c {a0_0 : Int} {a0_1 : Int} {a0_2 : Int} {a0_3 : Int} {r : Int} (h : binary_shape_hidden.f a0_0 a0_1 a0_2 a0_3 = some r) : Con Tryz.prog Gw 130 [.ag [.i .i64 a0_0, .i .i64 a0_1, .i .i64 a0_2, .i .u64 a0_3]] (· = .s (.i .u64 r)) := by
 unfold binary_shape_hidden.f at h
 rcases ite_e h with ⟨c1, h⟩ | ⟨c1, h⟩
 ·have h := si h; subst h
  exact pth Tryz.func130 [] (fun e => ai c1 e) (by kernel_rfl)
 ·cases h
def binary_shape_inf.f (a0_0 : Int) (a0_1 : Int) (a0_2 : Int) (a0_3 : Int) : Option (Int) := (binary_shape_sign.f a0_0 a0_1 a0_2 a0_3).bind fun t447 => ((binary_shape_hidden.f a0_0 a0_1 a0_2 a0_3).bind fun t448 => (some (IntKind.u64.wrap (t447 - t448))))
theorem binary_shape_inf.c {a0_0 : Int} {a0_1 : Int} {a0_2 : Int} {a0_3 : Int} {r : Int} (h : binary_shape_inf.f a0_0 a0_1 a0_2 a0_3 = some r) : Con Tryz.prog Gw 86 [.ag [.i .i64 a0_0, .i .i64 a0_1, .i .i64 a0_2, .i .u64 a0_3]] (· = .s (.i .u64 r)) := by
 unfold binary_shape_inf.f at h
 obtain ⟨t447, A1, h⟩ := bnd h
 obtain ⟨t448, A2, h⟩ := bnd h
 have h := si h; subst h
 exact pth Tryz.func86 [.r (.s (.i .u64 t447)), .r (.s (.i .u64 t448))] (fun e => ai (binary_shape_sign.c A1) (ai (binary_shape_hidden.c A2) e)) (by kernel_rfl)
def binary_shapeOf.f (a0 : Int) : Option (Int × Int × Int × Int) := if a0 = 32 then (some (32, 24, (-149), 2143289345)) else (if a0 = 64 then (some (64, 53, (-1074), 9221120237041090561)) else (some (0, 0, 0, 0)))
theorem binary_shapeOf.c {a0 : Int} {r : Int × Int × Int × Int} (h : binary_shapeOf.f a0 = some r) : Con Tryz.prog Gw 83 [.s (.i .i64 a0)] (· = .ag [.i .i64 r.1, .i .i64 r.2.1, .i .i64 r.2.2.1, .i .u64 r.2.2.2]) := by
 unfold binary_shapeOf.f at h
 rcases ite_e h with ⟨c1, h⟩ | ⟨c1, h⟩
 ·have h := si h; subst h
  exact pth Tryz.func83 [.br true] (fun e => ai (q1 c1) e) (by kernel_rfl)
 ·rcases ite_e h with ⟨c2, h⟩ | ⟨c2, h⟩
  ·have h := si h; subst h
   exact pth Tryz.func83 [.br false, .br true] (fun e => ai (q0 c1) (ai (q1 c2) e)) (by kernel_rfl)
  ·have h := si h; subst h
   exact pth Tryz.func83 [.br false, .br false] (fun e => ai (q0 c1) (ai (q0 c2) e)) (by kernel_rfl)
end Go.Proofs.YtokoadgahflafaaGreatDoor.PLib
