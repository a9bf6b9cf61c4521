/- Functions of the program as plain Lean functions (definitions as the print's), and that the machine's calls do what they do (contracts 'X.c', by Px). Condition: math/bits' table is laid. -/
import Derived.Test.YtelfmddcjlocpaaDoorKAcceptMiddlesPxBr
import Derived.Test.YtelfmddcjlocpaaDoorKAcceptMiddlesPxGiven
import Derived.Test.YtelfmddcjlocpaaDoorProg
import Derived.Test.YtelfmddcjlocpaaDoorKAcceptMiddlesGiven
import Derived.Below
import Derived.Deep.Draws
import Derived.Deep.AppendLies
import Derived.Maps.AppendAt
import Derived.OwnWalk
import Derived.Laws.BytesArg
import Derived.Laws.MakeOwn
import Derived.Laws.OwnMore
import Derived.Deep.OwnRows
import Derived.Tactics
import Derived.Lib.ConvBytes
import Derived.Laws.Slices
import Derived.WalkKit
import Derived.KernelRfl
import Derived.RowKit3
import Derived.Deep.LoopGhost
import Derived.Deep.QuietTactic
import Derived.BigQuiet
import Derived.WideLaws
import Derived.Deep.DeepCutAuto
import Derived.Deep.CutBlock
import Derived.Deep.RegionHeld3
import Derived.Laws.Rows
import Derived.Lib.AppendStr
import Derived.ArgAppend
import Derived.Laws.IdiomCopy
import Derived.OrdersHeld
import Derived.Laws.BitsLemmas
import Derived.RowKit
import Derived.Test.YtelfmddcjlocpaaDoorKAcceptMiddlesWWords
import Derived.Test.YtelfmddcjlocpaaDoorKAcceptMiddlesBl
import Derived.Test.YtelfmddcjlocpaaDoorKAcceptMiddlesWInv
import Derived.Laws.StructEq
import Derived.Laws.CopyOwn
set_option linter.unusedVariables false
namespace Go.Proofs.YtelfmddcjlocpaaDoor.PLib
open Go Go.RowKit Go.Proofs.YtelfmddcjlocpaaDoorW.PrintWords Go.Proofs.YtelfmddcjlocpaaDoorW.PrintMore Go.Proofs.YtelfmddcjlocpaaDoor.Given Go.Proofs.YtelfmddcjlocpaaDoor.Px
def dyadic_nought.f (a0_0 : Bool) (l0_1 : List Int) (a0_2 : Int) : Option (Bool) := some ((l0_1.length : Int) == 0)
theorem dyadic_nought.c {a0_0 : Bool} {l0_1 : List Int} {a0_2 : Int} {r : Bool} (h : dyadic_nought.f a0_0 l0_1 a0_2 = some r) : Con Tryd.prog Gw 58 [.ag [.b a0_0, .sl .u64 l0_1, .i .i64 a0_2]] (· = .s (.b r)) := by
 unfold dyadic_nought.f at h
 have h := si h; subst h
 exact pth Tryd.func58 [] (fun e => e) (by kernel_rfl)
def nat_Form.f (l0 : List Int) : Option (Bool) := if (l0.length : Int) ≤ 8192 then (if (l0.length : Int) = 0 then (some true) else (if 0 ≤ (wrap64 ((l0.length : Int) - 1)) then (if (wrap64 ((l0.length : Int) - 1)) < (l0.length : Int) then (some ((rd l0 (wrap64 ((l0.length : Int) - 1))) != 0)) else (none)) else (none))) else (some false)
theorem nat_Form.c {l0 : List Int} {r : Bool} (h : nat_Form.f l0 = some r) : Con Tryd.prog Gw 104 [.s (.sl .u64 l0)] (· = .s (.b r)) := by
 unfold nat_Form.f at h
 rcases ite_e h with ⟨c1, h⟩ | ⟨c1, h⟩
 ·rcases ite_e h with ⟨c2, h⟩ | ⟨c2, h⟩
  ·have h := si h; subst h
   exact pth Tryd.func104 [.br true, .br true, .br true, .br true, .br true, .br true, .br true, .br true, .br true, .br true, .br true, .br true, .br true, .br true] (fun e => ai (d1 c1) (ai (d1 c1) (ai (d1 c1) (ai (d1 c1) (ai (q1 c2) (ai (q1 c2) (ai (q1 c2) (ai (q1 c2) (ai (q1 c2) (ai (q1 c2) (ai (q1 c2) (ai (d1 c1) (ai (q1 c2) (ai (d1 c1) e)))))))))))))) (by kernel_rfl)
  ·rcases ite_e h with ⟨c3, h⟩ | ⟨c3, h⟩
   ·rcases ite_e h with ⟨c4, h⟩ | ⟨c4, h⟩
    ·have h := si h; subst h
     exact pth Tryd.func104 [.br true, .br true, .br true, .br true, .br false, .br false, .br false, .br false, .br false, .br false, .br false, .br true, .br false, .br true] (fun e => ai (d1 c1) (ai (d1 c1) (ai (d1 c1) (ai (d1 c1) (ai (q0 c2) (ai (q0 c2) (ai (q0 c2) (ai (q0 c2) (ai (q0 c2) (ai c3 (ai c4 (ai (q0 c2) (ai (q0 c2) (ai (d1 c1) (ai (q0 c2) (ai (d1 c1) e)))))))))))))))) (by kernel_rfl)
    ·cases h
   ·cases h
 ·have h := si h; subst h
  exact pth Tryd.func104 [.br false, .br false, .br false, .br false, .br false, .br false] (fun e => ai (d0 c1) (ai (d0 c1) (ai (d0 c1) (ai (d0 c1) (ai (d0 c1) (ai (d0 c1) e)))))) (by kernel_rfl)
def num_Form.f (a0_0 : Bool) (l0_1 : List Int) : Option (Bool) := (nat_Form.f l0_1).bind fun t284 => (if t284 = true then (if a0_0 = true then (some (!((l0_1.length : Int) == 0))) else (some (!false))) else (some false))
theorem num_Form.c {a0_0 : Bool} {l0_1 : List Int} {r : Bool} (h : num_Form.f a0_0 l0_1 = some r) : Con Tryd.prog Gw 70 [.ag [.b a0_0, .sl .u64 l0_1]] (· = .s (.b r)) := by
 unfold num_Form.f at h
 obtain ⟨t284, A1, h⟩ := bnd h
 rcases ite_e h with ⟨c2, h⟩ | ⟨c2, h⟩
 ·rcases ite_e h with ⟨c3, h⟩ | ⟨c3, h⟩
  ·have h := si h; subst h
   exact pth Tryd.func70 [.r (.s (.b t284)), .br true, .br true, .br true, .br true, .br true, .br true, .br true, .br true, .br true, .br true, .br true] (fun e => ai (nat_Form.c A1) (ai c2 (ai c2 (ai c2 (ai c3 (ai c3 (ai c3 (ai c3 (ai c2 (ai c3 (ai c2 (ai c2 e)))))))))))) (by kernel_rfl)
  ·have h := si h; subst h
   exact pth Tryd.func70 [.r (.s (.b t284)), .br true, .br true, .br true, .br false, .br false, .br false, .br false, .br true, .br false, .br true, .br true] (fun e => ai (nat_Form.c A1) (ai c2 (ai c2 (ai c2 (ai (z0 c3) (ai (z0 c3) (ai (z0 c3) (ai (z0 c3) (ai c2 (ai (z0 c3) (ai c2 (ai c2 e)))))))))))) (by kernel_rfl)
 ·have h := si h; subst h
  exact pth Tryd.func70 [.r (.s (.b t284)), .br false, .br false, .br false, .br false, .br false, .br false] (fun e => ai (nat_Form.c A1) (ai (z0 c2) (ai (z0 c2) (ai (z0 c2) (ai (z0 c2) (ai (z0 c2) (ai (z0 c2) e))))))) (by kernel_rfl)
def dyadic_Form.j0 : Nat → Bool → Bool → List Int → Int → Option (Bool)
 | 0, _, _, _, _ => none
 | k + 1, x16, x286000, x286001, x286002 => if x16 = true then (some false) else ((dyadic_nought.f x286000 x286001 x286002).bind fun t287 => (if t287 = true then (some (x286002 == 0)) else (if 0 < (x286001.length : Int) then (some ((Go.bits .and .u64 (rd x286001 0) 1) == 1)) else (none))))
def dyadic_Form.f (k : Nat) (a0_0 : Bool) (l0_1 : List Int) (a0_2 : Int) : Option (Bool) := (num_Form.f a0_0 l0_1).bind fun t286 => (if t286 = true then (if a0_2 < (-1048576) then (dyadic_Form.j0 k true a0_0 l0_1 a0_2) else (dyadic_Form.j0 k (decide (a0_2 > 1048576)) a0_0 l0_1 a0_2)) else (dyadic_Form.j0 k true a0_0 l0_1 a0_2))
theorem dyadic_Form.jc : ∀ k : Nat, (∀ (x16 : Bool) (x286000 : Bool) (x286001 : List Int) (x286002 : Int) (r : Bool), dyadic_Form.j0 k x16 x286000 x286001 x286002 = some r → Fin Tryd.prog Gw 40 (nav (bodyOf Tryd.f40) [1, 0, 1] []) ⟨mkT 29 [(1, .s (.lo 0 0)), (16, .s (.b x16))], [some (26, [.b x286000, .sl .u64 x286001, .i .i64 x286002])]⟩ (· = .s (.b r)))
 | 0 => (fun _ _ _ _ _ h => nn h)
 | k + 1 => by
  have ih := dyadic_Form.jc k
  ·intro x16 x286000 x286001 x286002 r h
   rw [dyadic_Form.j0] at h
   rcases ite_e h with ⟨c1, h⟩ | ⟨c1, h⟩
   ·have h := si h; subst h
    exact jth Tryd.func40 [.br true] (fun e => ai c1 e) (by kernel_rfl)
   ·obtain ⟨t287, A2, h⟩ := bnd h
    rcases ite_e h with ⟨c3, h⟩ | ⟨c3, h⟩
    ·have h := si h; subst h
     exact jth Tryd.func40 [.br false, .r (.s (.b t287)), .br true] (fun e => ai (z0 c1) (ai (dyadic_nought.c A2) (ai c3 e))) (by kernel_rfl)
    ·rcases ite_e h with ⟨c4, h⟩ | ⟨c4, h⟩
     ·have h := si h; subst h
      exact jth Tryd.func40 [.br false, .r (.s (.b t287)), .br false] (fun e => ai (z0 c1) (ai (dyadic_nought.c A2) (ai (z0 c3) (ai (by decide : (0 : Int) ≤ 0) (ai c4 e))))) (by kernel_rfl)
     ·cases h
theorem dyadic_Form.c {k : Nat} {a0_0 : Bool} {l0_1 : List Int} {a0_2 : Int} {r : Bool} (h : dyadic_Form.f k a0_0 l0_1 a0_2 = some r) : Con Tryd.prog Gw 40 [.ag [.b a0_0, .sl .u64 l0_1, .i .i64 a0_2]] (· = .s (.b r)) := by
 unfold dyadic_Form.f at h
 obtain ⟨t286, A1, h⟩ := bnd h
 rcases ite_e h with ⟨c2, h⟩ | ⟨c2, h⟩
 ·rcases ite_e h with ⟨c3, h⟩ | ⟨c3, h⟩
  ·exact pth Tryd.func40 [.r (.s (.b t286)), .br false, .br false, .br false, .br false, .br true, .br true, .br true, .br true, .cut 0 [1, 16] [0] []] (fun _ => ai (num_Form.c A1) (ai (nt1 c2) (ai (nt1 c2) (ai (nt1 c2) (ai (nt1 c2) (ai (d1 c3) (ai (d1 c3) (ai (d1 c3) (ai (d1 c3) (dyadic_Form.jc k _ _ _ _ _ h)))))))))) (by kernel_rfl)
  ·exact pth Tryd.func40 [.r (.s (.b t286)), .br false, .br false, .br false, .br false, .br false, .br false, .br false, .br false, .cut 0 [1, 16] [0] []] (fun _ => ai (num_Form.c A1) (ai (nt1 c2) (ai (nt1 c2) (ai (nt1 c2) (ai (nt1 c2) (ai (d0 c3) (ai (d0 c3) (ai (d0 c3) (ai (d0 c3) (dyadic_Form.jc k _ _ _ _ _ h)))))))))) (by kernel_rfl)
 ·exact pth Tryd.func40 [.r (.s (.b t286)), .br true, .br true, .br true, .br true, .br true, .br true, .br true, .br true, .cut 0 [1, 16] [0] []] (fun _ => ai (num_Form.c A1) (ai (nt0 (z0 c2)) (ai (nt0 (z0 c2)) (ai (nt0 (z0 c2)) (ai (nt0 (z0 c2)) (ai tt (ai tt (ai tt (ai tt (dyadic_Form.jc k _ _ _ _ _ h)))))))))) (by kernel_rfl)
def num_Sign.f (a0_0 : Bool) (l0_1 : List Int) : Option (Int) := (nat_Bits.f l0_1).bind fun t290 => (if t290 = 0 then (some 0) else (if a0_0 = true then (some (-1)) else (some 1)))
def round_of.f (a0 : Int) : Option (Int × Int × Int) := if a0 = 32 then (some (24, (-149), 31)) else (if a0 = 64 then (some (53, (-1074), 63)) else (some (0, 0, 0)))
theorem round_of.c {a0 : Int} {r : Int × Int × Int} (h : round_of.f a0 = some r) : Con Tryd.prog Gw 34 [.s (.i .i64 a0)] (· = .ag [.i .i64 r.1, .i .i64 r.2.1, .i .i64 r.2.2]) := by
 unfold round_of.f at h
 rcases ite_e h with ⟨c1, h⟩ | ⟨c1, h⟩
 ·have h := si h; subst h
  exact pth Tryd.func34 [.br true] (fun e => ai (q1 c1) e) (by kernel_rfl)
 ·rcases ite_e h with ⟨c2, h⟩ | ⟨c2, h⟩
  ·have h := si h; subst h
   exact pth Tryd.func34 [.br false, .br true] (fun e => ai (q0 c1) (ai (q1 c2) e)) (by kernel_rfl)
  ·have h := si h; subst h
   exact pth Tryd.func34 [.br false, .br false] (fun e => ai (q0 c1) (ai (q0 c2) e)) (by kernel_rfl)
def round_widths_signed.f (a0_0 : Int) (a0_1 : Int) (a0_2 : Int) (a1 : Bool) (a2 : Int) : Option (Int) := if a1 = true then (if 0 ≤ a0_2 then (some (Go.bits .or .u64 a2 (shl .u64 1 a0_2))) else (none)) else (some a2)
theorem round_widths_signed.c {a0_0 : Int} {a0_1 : Int} {a0_2 : Int} {a1 : Bool} {a2 : Int} {r : Int} (h : round_widths_signed.f a0_0 a0_1 a0_2 a1 a2 = some r) : Con Tryd.prog Gw 41 [.ag [.i .i64 a0_0, .i .i64 a0_1, .i .i64 a0_2], .s (.b a1), .s (.i .u64 a2)] (· = .s (.i .u64 r)) := by
 unfold round_widths_signed.f at h
 rcases ite_e h with ⟨c1, h⟩ | ⟨c1, h⟩
 ·rcases ite_e h with ⟨c2, h⟩ | ⟨c2, h⟩
  ·have h := si h; subst h
   exact pth Tryd.func41 [.br true] (fun e => ai c1 (ai c2 e)) (by kernel_rfl)
  ·cases h
 ·have h := si h; subst h
  exact pth Tryd.func41 [.br false] (fun e => ai (z0 c1) e) (by kernel_rfl)
def num_whole.f (a0 : Bool) (l1 : List Int) : Option (Bool × List Int) := if a0 = true then (some (decide ((l1.length : Int) > 0), l1)) else (some (false, l1))
theorem num_whole.c {a0 : Bool} {l1 : List Int} {r : Bool × List Int} (h : num_whole.f a0 l1 = some r) : Con Tryd.prog Gw 112 [.s (.b a0), .s (.sl .u64 l1)] (· = .ag [.b r.1, .sl .u64 r.2]) := by
 unfold num_whole.f at h
 rcases ite_e h with ⟨c1, h⟩ | ⟨c1, h⟩
 ·have h := si h; subst h
  exact pth Tryd.func112 [.br true, .br true, .br true, .br true] (fun e => ai c1 (ai c1 (ai c1 (ai c1 e)))) (by kernel_rfl)
 ·have h := si h; subst h
  exact pth Tryd.func112 [.br false, .br false, .br false, .br false] (fun e => ai (z0 c1) (ai (z0 c1) (ai (z0 c1) (ai (z0 c1) e)))) (by kernel_rfl)
def num_told.f (a0 : Bool) (l1 : List Int) (a2 : Int) : Option (Bool × List Int × Int) := if a2 = 0 then ((num_whole.f a0 l1).bind fun bt321 => (some (bt321.1, bt321.2, 0))) else (some (false, ([] : List Int), a2))
theorem num_told.c {a0 : Bool} {l1 : List Int} {a2 : Int} {r : Bool × List Int × Int} (h : num_told.f a0 l1 a2 = some r) : Con Tryd.prog Gw 89 [.s (.b a0), .s (.sl .u64 l1), .s (.i .i64 a2)] (· = .tu [.ag [.b r.1, .sl .u64 r.2.1], .s (.i .i64 r.2.2)]) := by
 unfold num_told.f at h
 rcases ite_e h with ⟨c1, h⟩ | ⟨c1, h⟩
 ·obtain ⟨bt321, A2, h⟩ := bnd h
  have h := si h; subst h
  exact pth Tryd.func89 [.br false, .r (.ag [.b bt321.1, .sl .u64 bt321.2])] (fun e => ai (n0 c1) (ai (num_whole.c A2) e)) (by kernel_rfl)
 ·have h := si h; subst h
  exact pth Tryd.func89 [.br true] (fun e => ai (n1 c1) e) (by kernel_rfl)
def num_Shl.f (a0_0 : Bool) (l0_1 : List Int) (a1 : Int) : Option (Bool × List Int × Int) := if a1 < 0 then (some (false, ([] : List Int), 1)) else ((num_Form.f a0_0 l0_1).bind fun t327 => (if t327 = true then ((nat_Shl.f l0_1 a1).bind fun bt328 => ((num_told.f a0_0 bt328.1 bt328.2).bind fun bt332 => (some (bt332.1, bt332.2.1, bt332.2.2)))) else (some (false, ([] : List Int), 2))))
theorem num_Shl.c {a0_0 : Bool} {l0_1 : List Int} {a1 : Int} {r : Bool × List Int × Int} (h : num_Shl.f a0_0 l0_1 a1 = some r) : Con Tryd.prog Gw 60 [.ag [.b a0_0, .sl .u64 l0_1], .s (.i .i64 a1)] (· = .tu [.ag [.b r.1, .sl .u64 r.2.1], .s (.i .i64 r.2.2)]) := by
 unfold num_Shl.f at h
 rcases ite_e h with ⟨c1, h⟩ | ⟨c1, h⟩
 ·have h := si h; subst h
  exact pth Tryd.func60 [.br true] (fun e => ai (d1 c1) e) (by kernel_rfl)
 ·obtain ⟨t327, A2, h⟩ := bnd h
  rcases ite_e h with ⟨c3, h⟩ | ⟨c3, h⟩
  ·obtain ⟨bt328, A4, h⟩ := bnd h
   obtain ⟨bt332, A5, h⟩ := bnd h
   have h := si h; subst h
   exact pth Tryd.func60 [.br false, .r (.s (.b t327)), .br false, .r (.tu [.s (.sl .u64 bt328.1), .s (.i .i64 bt328.2)]), .r (.tu [.ag [.b bt332.1, .sl .u64 bt332.2.1], .s (.i .i64 bt332.2.2)])] (fun e => ai (d0 c1) (ai (num_Form.c A2) (ai (nt1 c3) (ai (nat_Shl.c A4) (ai (num_told.c A5) e))))) (by kernel_rfl)
  ·have h := si h; subst h
   exact pth Tryd.func60 [.br false, .r (.s (.b t327)), .br true] (fun e => ai (d0 c1) (ai (num_Form.c A2) (ai (nt0 (z0 c3)) e))) (by kernel_rfl)
def round_widths_infinity.f (a0_0 : Int) (a0_1 : Int) (a0_2 : Int) : Option (Int) := if 0 ≤ a0_2 then (if 0 ≤ (wrap64 (a0_0 - 1)) then (some (IntKind.u64.wrap ((shl .u64 1 a0_2) - (shl .u64 1 (wrap64 (a0_0 - 1)))))) else (none)) else (none)
theorem round_widths_infinity.c {a0_0 : Int} {a0_1 : Int} {a0_2 : Int} {r : Int} (h : round_widths_infinity.f a0_0 a0_1 a0_2 = some r) : Con Tryd.prog Gw 72 [.ag [.i .i64 a0_0, .i .i64 a0_1, .i .i64 a0_2]] (· = .s (.i .u64 r)) := by
 unfold round_widths_infinity.f at h
 rcases ite_e h with ⟨c1, h⟩ | ⟨c1, h⟩
 ·rcases ite_e h with ⟨c2, h⟩ | ⟨c2, h⟩
  ·have h := si h; subst h
   exact pth Tryd.func72 [] (fun e => ai c1 (ai c2 e)) (by kernel_rfl)
  ·cases h
 ·cases h
end Go.Proofs.YtelfmddcjlocpaaDoor.PLib
