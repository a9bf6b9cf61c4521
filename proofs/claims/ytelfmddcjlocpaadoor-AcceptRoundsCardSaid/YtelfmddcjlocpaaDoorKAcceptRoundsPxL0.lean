/- Functions of the program as plain Lean functions (definitions as the print's), and that the machine's calls do what they do (contracts 'X.c', by Px). Condition: math/bits' table is laid. -/
import Derived.Test.YtelfmddcjlocpaaDoorKAcceptRoundsPxBr
import Derived.Test.YtelfmddcjlocpaaDoorKAcceptRoundsPxGiven
import Derived.Test.YtelfmddcjlocpaaDoorProg
import Derived.Test.YtelfmddcjlocpaaDoorKAcceptRoundsGiven
import Derived.Below
import Derived.Deep.Draws
import Derived.Deep.AppendLies
import Derived.Maps.AppendAt
import Derived.OwnWalk
import Derived.Laws.BytesArg
import Derived.Laws.MakeOwn
import Derived.Laws.OwnMore
import Derived.Deep.OwnRows
import Derived.Tactics
import Derived.Lib.ConvBytes
import Derived.Laws.Slices
import Derived.WalkKit
import Derived.KernelRfl
import Derived.RowKit3
import Derived.Deep.LoopGhost
import Derived.Deep.QuietTactic
import Derived.BigQuiet
import Derived.WideLaws
import Derived.Deep.DeepCutAuto
import Derived.Deep.CutBlock
import Derived.Deep.RegionHeld3
import Derived.Laws.Rows
import Derived.Lib.AppendStr
import Derived.ArgAppend
import Derived.Laws.IdiomCopy
import Derived.OrdersHeld
import Derived.Laws.BitsLemmas
import Derived.RowKit
import Derived.Test.YtelfmddcjlocpaaDoorKAcceptRoundsWWords
import Derived.Test.YtelfmddcjlocpaaDoorKAcceptRoundsBl
import Derived.Test.YtelfmddcjlocpaaDoorKAcceptRoundsWInv
import Derived.Laws.StructEq
import Derived.Laws.CopyOwn
set_option linter.unusedVariables false
namespace Go.Proofs.YtelfmddcjlocpaaDoor.PLib
open Go Go.RowKit Go.Proofs.YtelfmddcjlocpaaDoorW.PrintWords Go.Proofs.YtelfmddcjlocpaaDoorW.PrintMore Go.Proofs.YtelfmddcjlocpaaDoor.Given Go.Proofs.YtelfmddcjlocpaaDoor.Px
def dyadic_nought.f (a0_0 : Bool) (l0_1 : List Int) (a0_2 : Int) : Option (Bool) := some ((l0_1.length : Int) == 0)
theorem dyadic_nought.c {a0_0 : Bool} {l0_1 : List Int} {a0_2 : Int} {r : Bool} (h : dyadic_nought.f a0_0 l0_1 a0_2 = some r) : Con Tryd.prog Gw 58 [.ag [.b a0_0, .sl .u64 l0_1, .i .i64 a0_2]] (· = .s (.b r)) := by
 unfold dyadic_nought.f at h
 have h := si h; subst h
 exact pth Tryd.func58 [] (fun e => e) (by kernel_rfl)
def nat_Form.f (l0 : List Int) : Option (Bool) := if (l0.length : Int) ≤ 8192 then (if (l0.length : Int) = 0 then (some true) else (if 0 ≤ (wrap64 ((l0.length : Int) - 1)) then (if (wrap64 ((l0.length : Int) - 1)) < (l0.length : Int) then (some ((rd l0 (wrap64 ((l0.length : Int) - 1))) != 0)) else (none)) else (none))) else (some false)
theorem nat_Form.c {l0 : List Int} {r : Bool} (h : nat_Form.f l0 = some r) : Con Tryd.prog Gw 104 [.s (.sl .u64 l0)] (· = .s (.b r)) := by
 unfold nat_Form.f at h
 rcases ite_e h with ⟨c1, h⟩ | ⟨c1, h⟩
 ·rcases ite_e h with ⟨c2, h⟩ | ⟨c2, h⟩
  ·have h := si h; subst h
   exact pth Tryd.func104 [.br true, .br true, .br true, .br true, .br true, .br true, .br true, .br true, .br true, .br true, .br true, .br true, .br true, .br true] (fun e => ai (d1 c1) (ai (d1 c1) (ai (d1 c1) (ai (d1 c1) (ai (q1 c2) (ai (q1 c2) (ai (q1 c2) (ai (q1 c2) (ai (q1 c2) (ai (q1 c2) (ai (q1 c2) (ai (d1 c1) (ai (q1 c2) (ai (d1 c1) e)))))))))))))) (by kernel_rfl)
  ·rcases ite_e h with ⟨c3, h⟩ | ⟨c3, h⟩
   ·rcases ite_e h with ⟨c4, h⟩ | ⟨c4, h⟩
    ·have h := si h; subst h
     exact pth Tryd.func104 [.br true, .br true, .br true, .br true, .br false, .br false, .br false, .br false, .br false, .br false, .br false, .br true, .br false, .br true] (fun e => ai (d1 c1) (ai (d1 c1) (ai (d1 c1) (ai (d1 c1) (ai (q0 c2) (ai (q0 c2) (ai (q0 c2) (ai (q0 c2) (ai (q0 c2) (ai c3 (ai c4 (ai (q0 c2) (ai (q0 c2) (ai (d1 c1) (ai (q0 c2) (ai (d1 c1) e)))))))))))))))) (by kernel_rfl)
    ·cases h
   ·cases h
 ·have h := si h; subst h
  exact pth Tryd.func104 [.br false, .br false, .br false, .br false, .br false, .br false] (fun e => ai (d0 c1) (ai (d0 c1) (ai (d0 c1) (ai (d0 c1) (ai (d0 c1) (ai (d0 c1) e)))))) (by kernel_rfl)
def num_Form.f (a0_0 : Bool) (l0_1 : List Int) : Option (Bool) := (nat_Form.f l0_1).bind fun t284 => (if t284 = true then (if a0_0 = true then (some (!((l0_1.length : Int) == 0))) else (some (!false))) else (some false))
theorem num_Form.c {a0_0 : Bool} {l0_1 : List Int} {r : Bool} (h : num_Form.f a0_0 l0_1 = some r) : Con Tryd.prog Gw 70 [.ag [.b a0_0, .sl .u64 l0_1]] (· = .s (.b r)) := by
 unfold num_Form.f at h
 obtain ⟨t284, A1, h⟩ := bnd h
 rcases ite_e h with ⟨c2, h⟩ | ⟨c2, h⟩
 ·rcases ite_e h with ⟨c3, h⟩ | ⟨c3, h⟩
  ·have h := si h; subst h
   exact pth Tryd.func70 [.r (.s (.b t284)), .br true, .br true, .br true, .br true, .br true, .br true, .br true, .br true, .br true, .br true, .br true] (fun e => ai (nat_Form.c A1) (ai c2 (ai c2 (ai c2 (ai c3 (ai c3 (ai c3 (ai c3 (ai c2 (ai c3 (ai c2 (ai c2 e)))))))))))) (by kernel_rfl)
  ·have h := si h; subst h
   exact pth Tryd.func70 [.r (.s (.b t284)), .br true, .br true, .br true, .br false, .br false, .br false, .br false, .br true, .br false, .br true, .br true] (fun e => ai (nat_Form.c A1) (ai c2 (ai c2 (ai c2 (ai (z0 c3) (ai (z0 c3) (ai (z0 c3) (ai (z0 c3) (ai c2 (ai (z0 c3) (ai c2 (ai c2 e)))))))))))) (by kernel_rfl)
 ·have h := si h; subst h
  exact pth Tryd.func70 [.r (.s (.b t284)), .br false, .br false, .br false, .br false, .br false, .br false] (fun e => ai (nat_Form.c A1) (ai (z0 c2) (ai (z0 c2) (ai (z0 c2) (ai (z0 c2) (ai (z0 c2) (ai (z0 c2) e))))))) (by kernel_rfl)
def dyadic_Form.j0 : Nat → Bool → Bool → List Int → Int → Option (Bool)
 | 0, _, _, _, _ => none
 | k + 1, x16, x286000, x286001, x286002 => if x16 = true then (some false) else ((dyadic_nought.f x286000 x286001 x286002).bind fun t287 => (if t287 = true then (some (x286002 == 0)) else (if 0 < (x286001.length : Int) then (some ((Go.bits .and .u64 (rd x286001 0) 1) == 1)) else (none))))
def dyadic_Form.f (k : Nat) (a0_0 : Bool) (l0_1 : List Int) (a0_2 : Int) : Option (Bool) := (num_Form.f a0_0 l0_1).bind fun t286 => (if t286 = true then (if a0_2 < (-1048576) then (dyadic_Form.j0 k true a0_0 l0_1 a0_2) else (dyadic_Form.j0 k (decide (a0_2 > 1048576)) a0_0 l0_1 a0_2)) else (dyadic_Form.j0 k true a0_0 l0_1 a0_2))
theorem dyadic_Form.jc : ∀ k : Nat, (∀ (x16 : Bool) (x286000 : Bool) (x286001 : List Int) (x286002 : Int) (r : Bool), dyadic_Form.j0 k x16 x286000 x286001 x286002 = some r → Fin Tryd.prog Gw 40 (nav (bodyOf Tryd.f40) [1, 0, 1] []) ⟨mkT 29 [(1, .s (.lo 0 0)), (16, .s (.b x16))], [some (26, [.b x286000, .sl .u64 x286001, .i .i64 x286002])]⟩ (· = .s (.b r)))
 | 0 => (fun _ _ _ _ _ h => nn h)
 | k + 1 => by
  have ih := dyadic_Form.jc k
  ·intro x16 x286000 x286001 x286002 r h
   rw [dyadic_Form.j0] at h
   rcases ite_e h with ⟨c1, h⟩ | ⟨c1, h⟩
   ·have h := si h; subst h
    exact jth Tryd.func40 [.br true] (fun e => ai c1 e) (by kernel_rfl)
   ·obtain ⟨t287, A2, h⟩ := bnd h
    rcases ite_e h with ⟨c3, h⟩ | ⟨c3, h⟩
    ·have h := si h; subst h
     exact jth Tryd.func40 [.br false, .r (.s (.b t287)), .br true] (fun e => ai (z0 c1) (ai (dyadic_nought.c A2) (ai c3 e))) (by kernel_rfl)
    ·rcases ite_e h with ⟨c4, h⟩ | ⟨c4, h⟩
     ·have h := si h; subst h
      exact jth Tryd.func40 [.br false, .r (.s (.b t287)), .br false] (fun e => ai (z0 c1) (ai (dyadic_nought.c A2) (ai (z0 c3) (ai (by decide : (0 : Int) ≤ 0) (ai c4 e))))) (by kernel_rfl)
     ·cases h
theorem dyadic_Form.c {k : Nat} {a0_0 : Bool} {l0_1 : List Int} {a0_2 : Int} {r : Bool} (h : dyadic_Form.f k a0_0 l0_1 a0_2 = some r) : Con Tryd.prog Gw 40 [.ag [.b a0_0, .sl .u64 l0_1, .i .i64 a0_2]] (· = .s (.b r)) := by
 unfold dyadic_Form.f at h
 obtain ⟨t286, A1, h⟩ := bnd h
 rcases ite_e h with ⟨c2, h⟩ | ⟨c2, h⟩
 ·rcases ite_e h with ⟨c3, h⟩ | ⟨c3, h⟩
  ·exact pth Tryd.func40 [.r (.s (.b t286)), .br false, .br false, .br false, .br false, .br true, .br true, .br true, .br true, .cut 0 [1, 16] [0] []] (fun _ => ai (num_Form.c A1) (ai (nt1 c2) (ai (nt1 c2) (ai (nt1 c2) (ai (nt1 c2) (ai (d1 c3) (ai (d1 c3) (ai (d1 c3) (ai (d1 c3) (dyadic_Form.jc k _ _ _ _ _ h)))))))))) (by kernel_rfl)
  ·exact pth Tryd.func40 [.r (.s (.b t286)), .br false, .br false, .br false, .br false, .br false, .br false, .br false, .br false, .cut 0 [1, 16] [0] []] (fun _ => ai (num_Form.c A1) (ai (nt1 c2) (ai (nt1 c2) (ai (nt1 c2) (ai (nt1 c2) (ai (d0 c3) (ai (d0 c3) (ai (d0 c3) (ai (d0 c3) (dyadic_Form.jc k _ _ _ _ _ h)))))))))) (by kernel_rfl)
 ·exact pth Tryd.func40 [.r (.s (.b t286)), .br true, .br true, .br true, .br true, .br true, .br true, .br true, .br true, .cut 0 [1, 16] [0] []] (fun _ => ai (num_Form.c A1) (ai (nt0 (z0 c2)) (ai (nt0 (z0 c2)) (ai (nt0 (z0 c2)) (ai (nt0 (z0 c2)) (ai tt (ai tt (ai tt (ai tt (dyadic_Form.jc k _ _ _ _ _ h)))))))))) (by kernel_rfl)
def num_Sign.f (a0_0 : Bool) (l0_1 : List Int) : Option (Int) := (nat_Bits.f l0_1).bind fun t290 => (if t290 = 0 then (some 0) else (if a0_0 = true then (some (-1)) else (some 1)))
theorem num_Sign.c {a0_0 : Bool} {l0_1 : List Int} {r : Int} (h : num_Sign.f a0_0 l0_1 = some r) : Con Tryd.prog Gw 68 [.ag [.b a0_0, .sl .u64 l0_1]] (· = .s (.i .i64 r)) := by
 unfold num_Sign.f at h
 obtain ⟨t290, A1, h⟩ := bnd h
 rcases ite_e h with ⟨c2, h⟩ | ⟨c2, h⟩
 ·have h := si h; subst h
  exact pth Tryd.func68 [.r (.s (.i .i64 t290)), .br true] (fun e => ai (nat_Bits.c A1) (ai (q1 c2) e)) (by kernel_rfl)
 ·rcases ite_e h with ⟨c3, h⟩ | ⟨c3, h⟩
  ·have h := si h; subst h
   exact pth Tryd.func68 [.r (.s (.i .i64 t290)), .br false, .br true] (fun e => ai (nat_Bits.c A1) (ai (q0 c2) (ai c3 e))) (by kernel_rfl)
  ·have h := si h; subst h
   exact pth Tryd.func68 [.r (.s (.i .i64 t290)), .br false, .br false] (fun e => ai (nat_Bits.c A1) (ai (q0 c2) (ai (z0 c3) e))) (by kernel_rfl)
def dyadic_top.f (a0_0 : Bool) (l0_1 : List Int) (a0_2 : Int) : Option (Int) := (nat_Bits.f l0_1).bind fun t292 => (some (wrap64 ((wrap64 (a0_2 + t292)) - 1)))
theorem dyadic_top.c {a0_0 : Bool} {l0_1 : List Int} {a0_2 : Int} {r : Int} (h : dyadic_top.f a0_0 l0_1 a0_2 = some r) : Con Tryd.prog Gw 103 [.ag [.b a0_0, .sl .u64 l0_1, .i .i64 a0_2]] (· = .s (.i .i64 r)) := by
 unfold dyadic_top.f at h
 obtain ⟨t292, A1, h⟩ := bnd h
 have h := si h; subst h
 exact pth Tryd.func103 [.r (.s (.i .i64 t292))] (fun e => ai (nat_Bits.c A1) e) (by kernel_rfl)
def dyadic_size.f (a0_0 : Bool) (l0_1 : List Int) (a0_2 : Int) (a1_0 : Bool) (l1_1 : List Int) (a1_2 : Int) : Option (Int) := (dyadic_top.f a0_0 l0_1 a0_2).bind fun t295 => ((dyadic_top.f a1_0 l1_1 a1_2).bind fun t296 => (if t295 < t296 then (some (-1)) else (if t295 > t296 then (some 1) else ((nat_Shl.f l0_1 (wrap64 (a0_2 - (mn a0_2 a1_2)))).bind fun bt297 => ((nat_Shl.f l1_1 (wrap64 (a1_2 - (mn a0_2 a1_2)))).bind fun bt301 => ((nat_Cmp.f bt297.1 bt301.1).bind fun t305 => (some t305)))))))
theorem dyadic_size.c {a0_0 : Bool} {l0_1 : List Int} {a0_2 : Int} {a1_0 : Bool} {l1_1 : List Int} {a1_2 : Int} {r : Int} (h : dyadic_size.f a0_0 l0_1 a0_2 a1_0 l1_1 a1_2 = some r) : Con Tryd.prog Gw 69 [.ag [.b a0_0, .sl .u64 l0_1, .i .i64 a0_2], .ag [.b a1_0, .sl .u64 l1_1, .i .i64 a1_2]] (· = .s (.i .i64 r)) := by
 unfold dyadic_size.f at h
 obtain ⟨t295, A1, h⟩ := bnd h
 obtain ⟨t296, A2, h⟩ := bnd h
 rcases ite_e h with ⟨c3, h⟩ | ⟨c3, h⟩
 ·have h := si h; subst h
  exact pth Tryd.func69 [.r (.s (.i .i64 t295)), .r (.s (.i .i64 t296)), .br true] (fun e => ai (dyadic_top.c A1) (ai (dyadic_top.c A2) (ai (d1 c3) e))) (by kernel_rfl)
 ·rcases ite_e h with ⟨c4, h⟩ | ⟨c4, h⟩
  ·have h := si h; subst h
   exact pth Tryd.func69 [.r (.s (.i .i64 t295)), .r (.s (.i .i64 t296)), .br false, .br true] (fun e => ai (dyadic_top.c A1) (ai (dyadic_top.c A2) (ai (d0 c3) (ai (d1 c4) e)))) (by kernel_rfl)
  ·obtain ⟨bt297, A5, h⟩ := bnd h
   obtain ⟨bt301, A6, h⟩ := bnd h
   obtain ⟨t305, A7, h⟩ := bnd h
   have h := si h; subst h
   exact pth Tryd.func69 [.r (.s (.i .i64 t295)), .r (.s (.i .i64 t296)), .br false, .br false, .r (.tu [.s (.sl .u64 bt297.1), .s (.i .i64 bt297.2)]), .r (.tu [.s (.sl .u64 bt301.1), .s (.i .i64 bt301.2)]), .r (.s (.i .i64 t305))] (fun e => ai (dyadic_top.c A1) (ai (dyadic_top.c A2) (ai (d0 c3) (ai (d0 c4) (ai (nat_Shl.c A5) (ai (nat_Shl.c A6) (ai (nat_Cmp.c A7) e))))))) (by kernel_rfl)
def dyadic_Cmp.j0 : Nat → Bool → Bool → List Int → Int → Bool → List Int → Int → Option (Int × Int)
 | 0, _, _, _, _, _, _, _ => none
 | k + 1, x15, x307000, x307001, x307002, x308000, x308001, x308002 => if x15 = true then (some (0, 2)) else ((num_Sign.f x307000 x307001).bind fun t310 => ((num_Sign.f x308000 x308001).bind fun t311 => (if t310 < t311 then (some ((-1), 0)) else (if t310 > t311 then (some (1, 0)) else (if t310 = 0 then (some (0, 0)) else ((dyadic_size.f x307000 x307001 x307002 x308000 x308001 x308002).bind fun t312 => (some (wrap64 (t310 * t312), 0))))))))
def dyadic_Cmp.f (k : Nat) (a0_0 : Bool) (l0_1 : List Int) (a0_2 : Int) (a1_0 : Bool) (l1_1 : List Int) (a1_2 : Int) : Option (Int × Int) := (dyadic_Form.f k a0_0 l0_1 a0_2).bind fun t308 => (if t308 = true then ((dyadic_Form.f k a1_0 l1_1 a1_2).bind fun t309 => (dyadic_Cmp.j0 k (!t309) a0_0 l0_1 a0_2 a1_0 l1_1 a1_2)) else (dyadic_Cmp.j0 k true a0_0 l0_1 a0_2 a1_0 l1_1 a1_2))
theorem dyadic_Cmp.jc : ∀ k : Nat, (∀ (x15 : Bool) (x307000 : Bool) (x307001 : List Int) (x307002 : Int) (x308000 : Bool) (x308001 : List Int) (x308002 : Int) (r : Int × Int), dyadic_Cmp.j0 k x15 x307000 x307001 x307002 x308000 x308001 x308002 = some r → Fin Tryd.prog Gw 39 (nav (bodyOf Tryd.f39) [1, 0, 1] []) ⟨mkT 38 [(2, .s (.lo 0 0)), (3, .s (.lo 1 0)), (15, .s (.b x15))], [some (26, [.b x307000, .sl .u64 x307001, .i .i64 x307002]), some (26, [.b x308000, .sl .u64 x308001, .i .i64 x308002])]⟩ (· = .tu [.s (.i .i64 r.1), .s (.i .i64 r.2)]))
 | 0 => (fun _ _ _ _ _ _ _ _ h => nn h)
 | k + 1 => by
  have ih := dyadic_Cmp.jc k
  ·intro x15 x307000 x307001 x307002 x308000 x308001 x308002 r h
   rw [dyadic_Cmp.j0] at h
   rcases ite_e h with ⟨c1, h⟩ | ⟨c1, h⟩
   ·have h := si h; subst h
    exact jth Tryd.func39 [.br true] (fun e => ai c1 e) (by kernel_rfl)
   ·obtain ⟨t310, A2, h⟩ := bnd h
    obtain ⟨t311, A3, h⟩ := bnd h
    rcases ite_e h with ⟨c4, h⟩ | ⟨c4, h⟩
    ·have h := si h; subst h
     exact jth Tryd.func39 [.br false, .r (.s (.i .i64 t310)), .r (.s (.i .i64 t311)), .br true] (fun e => ai (z0 c1) (ai (num_Sign.c A2) (ai (num_Sign.c A3) (ai (d1 c4) e)))) (by kernel_rfl)
    ·rcases ite_e h with ⟨c5, h⟩ | ⟨c5, h⟩
     ·have h := si h; subst h
      exact jth Tryd.func39 [.br false, .r (.s (.i .i64 t310)), .r (.s (.i .i64 t311)), .br false, .br true] (fun e => ai (z0 c1) (ai (num_Sign.c A2) (ai (num_Sign.c A3) (ai (d0 c4) (ai (d1 c5) e))))) (by kernel_rfl)
     ·rcases ite_e h with ⟨c6, h⟩ | ⟨c6, h⟩
      ·have h := si h; subst h
       exact jth Tryd.func39 [.br false, .r (.s (.i .i64 t310)), .r (.s (.i .i64 t311)), .br false, .br false, .br true] (fun e => ai (z0 c1) (ai (num_Sign.c A2) (ai (num_Sign.c A3) (ai (d0 c4) (ai (d0 c5) (ai (q1 c6) e)))))) (by kernel_rfl)
      ·obtain ⟨t312, A7, h⟩ := bnd h
       have h := si h; subst h
       exact jth Tryd.func39 [.br false, .r (.s (.i .i64 t310)), .r (.s (.i .i64 t311)), .br false, .br false, .br false, .r (.s (.i .i64 t312))] (fun e => ai (z0 c1) (ai (num_Sign.c A2) (ai (num_Sign.c A3) (ai (d0 c4) (ai (d0 c5) (ai (q0 c6) (ai (dyadic_size.c A7) e))))))) (by kernel_rfl)
theorem dyadic_Cmp.c {k : Nat} {a0_0 : Bool} {l0_1 : List Int} {a0_2 : Int} {a1_0 : Bool} {l1_1 : List Int} {a1_2 : Int} {r : Int × Int} (h : dyadic_Cmp.f k a0_0 l0_1 a0_2 a1_0 l1_1 a1_2 = some r) : Con Tryd.prog Gw 39 [.ag [.b a0_0, .sl .u64 l0_1, .i .i64 a0_2], .ag [.b a1_0, .sl .u64 l1_1, .i .i64 a1_2]] (· = .tu [.s (.i .i64 r.1), .s (.i .i64 r.2)]) := by
 unfold dyadic_Cmp.f at h
 obtain ⟨t308, A1, h⟩ := bnd h
 rcases ite_e h with ⟨c2, h⟩ | ⟨c2, h⟩
 ·obtain ⟨t309, A3, h⟩ := bnd h
  exact pth Tryd.func39 [.r (.s (.b t308)), .br false, .br false, .r (.s (.b t309)), .br false, .br false, .cut 0 [2, 3, 15] [0, 1] []] (fun _ => ai (dyadic_Form.c A1) (ai (nt1 c2) (ai (nt1 c2) (ai (dyadic_Form.c A3) (ai (nt1 c2) (ai (nt1 c2) (dyadic_Cmp.jc k _ _ _ _ _ _ _ _ h))))))) (by kernel_rfl)
 ·exact pth Tryd.func39 [.r (.s (.b t308)), .br true, .br true, .br true, .br true, .cut 0 [2, 3, 15] [0, 1] []] (fun _ => ai (dyadic_Form.c A1) (ai (nt0 (z0 c2)) (ai (nt0 (z0 c2)) (ai (nt0 (z0 c2)) (ai (nt0 (z0 c2)) (dyadic_Cmp.jc k _ _ _ _ _ _ _ _ h)))))) (by kernel_rfl)
def round_of.f (a0 : Int) : Option (Int × Int × Int) := if a0 = 32 then (some (24, (-149), 31)) else (if a0 = 64 then (some (53, (-1074), 63)) else (some (0, 0, 0)))
theorem round_of.c {a0 : Int} {r : Int × Int × Int} (h : round_of.f a0 = some r) : Con Tryd.prog Gw 34 [.s (.i .i64 a0)] (· = .ag [.i .i64 r.1, .i .i64 r.2.1, .i .i64 r.2.2]) := by
 unfold round_of.f at h
 rcases ite_e h with ⟨c1, h⟩ | ⟨c1, h⟩
 ·have h := si h; subst h
  exact pth Tryd.func34 [.br true] (fun e => ai (q1 c1) e) (by kernel_rfl)
 ·rcases ite_e h with ⟨c2, h⟩ | ⟨c2, h⟩
  ·have h := si h; subst h
   exact pth Tryd.func34 [.br false, .br true] (fun e => ai (q0 c1) (ai (q1 c2) e)) (by kernel_rfl)
  ·have h := si h; subst h
   exact pth Tryd.func34 [.br false, .br false] (fun e => ai (q0 c1) (ai (q0 c2) e)) (by kernel_rfl)
def round_widths_signed.f (a0_0 : Int) (a0_1 : Int) (a0_2 : Int) (a1 : Bool) (a2 : Int) : Option (Int) := if a1 = true then (if 0 ≤ a0_2 then (some (Go.bits .or .u64 a2 (shl .u64 1 a0_2))) else (none)) else (some a2)
theorem round_widths_signed.c {a0_0 : Int} {a0_1 : Int} {a0_2 : Int} {a1 : Bool} {a2 : Int} {r : Int} (h : round_widths_signed.f a0_0 a0_1 a0_2 a1 a2 = some r) : Con Tryd.prog Gw 41 [.ag [.i .i64 a0_0, .i .i64 a0_1, .i .i64 a0_2], .s (.b a1), .s (.i .u64 a2)] (· = .s (.i .u64 r)) := by
 unfold round_widths_signed.f at h
 rcases ite_e h with ⟨c1, h⟩ | ⟨c1, h⟩
 ·rcases ite_e h with ⟨c2, h⟩ | ⟨c2, h⟩
  ·have h := si h; subst h
   exact pth Tryd.func41 [.br true] (fun e => ai c1 (ai c2 e)) (by kernel_rfl)
  ·cases h
 ·have h := si h; subst h
  exact pth Tryd.func41 [.br false] (fun e => ai (z0 c1) e) (by kernel_rfl)
def num_whole.f (a0 : Bool) (l1 : List Int) : Option (Bool × List Int) := if a0 = true then (some (decide ((l1.length : Int) > 0), l1)) else (some (false, l1))
theorem num_whole.c {a0 : Bool} {l1 : List Int} {r : Bool × List Int} (h : num_whole.f a0 l1 = some r) : Con Tryd.prog Gw 112 [.s (.b a0), .s (.sl .u64 l1)] (· = .ag [.b r.1, .sl .u64 r.2]) := by
 unfold num_whole.f at h
 rcases ite_e h with ⟨c1, h⟩ | ⟨c1, h⟩
 ·have h := si h; subst h
  exact pth Tryd.func112 [.br true, .br true, .br true, .br true] (fun e => ai c1 (ai c1 (ai c1 (ai c1 e)))) (by kernel_rfl)
 ·have h := si h; subst h
  exact pth Tryd.func112 [.br false, .br false, .br false, .br false] (fun e => ai (z0 c1) (ai (z0 c1) (ai (z0 c1) (ai (z0 c1) e)))) (by kernel_rfl)
def num_told.f (a0 : Bool) (l1 : List Int) (a2 : Int) : Option (Bool × List Int × Int) := if a2 = 0 then ((num_whole.f a0 l1).bind fun bt321 => (some (bt321.1, bt321.2, 0))) else (some (false, ([] : List Int), a2))
theorem num_told.c {a0 : Bool} {l1 : List Int} {a2 : Int} {r : Bool × List Int × Int} (h : num_told.f a0 l1 a2 = some r) : Con Tryd.prog Gw 89 [.s (.b a0), .s (.sl .u64 l1), .s (.i .i64 a2)] (· = .tu [.ag [.b r.1, .sl .u64 r.2.1], .s (.i .i64 r.2.2)]) := by
 unfold num_told.f at h
 rcases ite_e h with ⟨c1, h⟩ | ⟨c1, h⟩
 ·obtain ⟨bt321, A2, h⟩ := bnd h
  have h := si h; subst h
  exact pth Tryd.func89 [.br false, .r (.ag [.b bt321.1, .sl .u64 bt321.2])] (fun e => ai (n0 c1) (ai (num_whole.c A2) e)) (by kernel_rfl)
 ·have h := si h; subst h
  exact pth Tryd.func89 [.br true] (fun e => ai (n1 c1) e) (by kernel_rfl)
def num_Shl.f (a0_0 : Bool) (l0_1 : List Int) (a1 : Int) : Option (Bool × List Int × Int) := if a1 < 0 then (some (false, ([] : List Int), 1)) else ((num_Form.f a0_0 l0_1).bind fun t327 => (if t327 = true then ((nat_Shl.f l0_1 a1).bind fun bt328 => ((num_told.f a0_0 bt328.1 bt328.2).bind fun bt332 => (some (bt332.1, bt332.2.1, bt332.2.2)))) else (some (false, ([] : List Int), 2))))
theorem num_Shl.c {a0_0 : Bool} {l0_1 : List Int} {a1 : Int} {r : Bool × List Int × Int} (h : num_Shl.f a0_0 l0_1 a1 = some r) : Con Tryd.prog Gw 60 [.ag [.b a0_0, .sl .u64 l0_1], .s (.i .i64 a1)] (· = .tu [.ag [.b r.1, .sl .u64 r.2.1], .s (.i .i64 r.2.2)]) := by
 unfold num_Shl.f at h
 rcases ite_e h with ⟨c1, h⟩ | ⟨c1, h⟩
 ·have h := si h; subst h
  exact pth Tryd.func60 [.br true] (fun e => ai (d1 c1) e) (by kernel_rfl)
 ·obtain ⟨t327, A2, h⟩ := bnd h
  rcases ite_e h with ⟨c3, h⟩ | ⟨c3, h⟩
  ·obtain ⟨bt328, A4, h⟩ := bnd h
   obtain ⟨bt332, A5, h⟩ := bnd h
   have h := si h; subst h
   exact pth Tryd.func60 [.br false, .r (.s (.b t327)), .br false, .r (.tu [.s (.sl .u64 bt328.1), .s (.i .i64 bt328.2)]), .r (.tu [.ag [.b bt332.1, .sl .u64 bt332.2.1], .s (.i .i64 bt332.2.2)])] (fun e => ai (d0 c1) (ai (num_Form.c A2) (ai (nt1 c3) (ai (nat_Shl.c A4) (ai (num_told.c A5) e))))) (by kernel_rfl)
  ·have h := si h; subst h
   exact pth Tryd.func60 [.br false, .r (.s (.b t327)), .br true] (fun e => ai (d0 c1) (ai (num_Form.c A2) (ai (nt0 (z0 c3)) e))) (by kernel_rfl)
def round_widths_infinity.f (a0_0 : Int) (a0_1 : Int) (a0_2 : Int) : Option (Int) := if 0 ≤ a0_2 then (if 0 ≤ (wrap64 (a0_0 - 1)) then (some (IntKind.u64.wrap ((shl .u64 1 a0_2) - (shl .u64 1 (wrap64 (a0_0 - 1)))))) else (none)) else (none)
theorem round_widths_infinity.c {a0_0 : Int} {a0_1 : Int} {a0_2 : Int} {r : Int} (h : round_widths_infinity.f a0_0 a0_1 a0_2 = some r) : Con Tryd.prog Gw 72 [.ag [.i .i64 a0_0, .i .i64 a0_1, .i .i64 a0_2]] (· = .s (.i .u64 r)) := by
 unfold round_widths_infinity.f at h
 rcases ite_e h with ⟨c1, h⟩ | ⟨c1, h⟩
 ·rcases ite_e h with ⟨c2, h⟩ | ⟨c2, h⟩
  ·have h := si h; subst h
   exact pth Tryd.func72 [] (fun e => ai c1 (ai c2 e)) (by kernel_rfl)
  ·cases h
 ·cases h
end Go.Proofs.YtelfmddcjlocpaaDoor.PLib
