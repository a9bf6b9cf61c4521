/- Functions of the program as plain Lean functions (definitions as the print's), and that the machine's calls do what they do (contracts 'X.c', by Px). Condition: math/bits' table is laid. -/
import Derived.Test.YtapikmfckpgjoaaGreatDoorKDdFormsPxBr
import Derived.Test.YtapikmfckpgjoaaGreatDoorKDdFormsPxFl
import Derived.Test.YtapikmfckpgjoaaGreatDoorKDdFormsGiven
import Derived.OwnWalk
import Derived.Lib.Mul64
import Derived.Laws.Bits64b
import Derived.WalkKit
import Derived.Deep.QuietTactic
import Derived.BigQuiet
import Derived.Tactics2
set_option linter.unusedVariables false
namespace Go.Proofs.YtapikmfckpgjoaaGreatDoor.PLib
open Go Go.RowKit Go.Proofs.YtapikmfckpgjoaaGreatDoorW.PrintWords Go.Proofs.YtapikmfckpgjoaaGreatDoorW.PrintMore Go.Proofs.YtapikmfckpgjoaaGreatDoor.Given Go.Proofs.YtapikmfckpgjoaaGreatDoor.Px
def gnomonref01_Bit.j0 : Nat → List Int → Int → Bool → Option (Int)
 | 0, _, _, _ => none
 | k + 1, x0, x1, x13 => if x13 = true then (some 0) else (if 0 ≤ (wrap64 (Int.tdiv x1 32)) then (if (wrap64 (Int.tdiv x1 32)) < (x0.length : Int) then (if 0 ≤ (Int.tmod x1 32) then (some (wrap64 (Go.bits .and .u32 (shr .u32 (rd x0 (wrap64 (Int.tdiv x1 32))) (Int.tmod x1 32)) 1))) else (none)) else (none)) else (none))
def gnomonref01_Bit.f (k : Nat) (l0 : List Int) (a1 : Int) : Option (Int) := if a1 < 0 then (gnomonref01_Bit.j0 k l0 a1 true) else (gnomonref01_Bit.j0 k l0 a1 (decide ((wrap64 (Int.tdiv a1 32)) ≥ (l0.length : Int))))
theorem gnomonref01_Bit.mono_l : ∀ k, (∀ y0 y1 y2, LeO (gnomonref01_Bit.j0 k y0 y1 y2) (gnomonref01_Bit.j0 (k + 1) y0 y1 y2))
 | 0 => fun _ _ _ r h => by simp [gnomonref01_Bit.j0] at h
 | k + 1 => by
  have ih0 := gnomonref01_Bit.mono_l k
  ·intro y0 y1 y2
   unfold gnomonref01_Bit.j0
   repeat' first
   | (with_reducible exact ih0 _ _ _)
   | (with_reducible exact LeO.refl _)
   | (with_reducible exact LeO.none _)
   | (with_reducible refine LeO.ite ?_ ?_)
   | (with_reducible refine LeO.bind ?_ (fun _ => ?_))
   | exact ih0 _ _ _
   | exact LeO.none _
   | refine LeO.ite ?_ ?_
   | refine LeO.bind ?_ (fun _ => ?_)
theorem gnomonref01_Bit.mono : ∀ a0 a1 k, LeO (gnomonref01_Bit.f k a0 a1) (gnomonref01_Bit.f (k + 1) a0 a1) := by
 intro a0 a1 k
 have ih0 := gnomonref01_Bit.mono_l k
 unfold gnomonref01_Bit.f
 repeat' first
   | (with_reducible exact ih0 _ _ _)
   | (with_reducible exact LeO.refl _)
   | (with_reducible exact LeO.none _)
   | (with_reducible refine LeO.ite ?_ ?_)
   | (with_reducible refine LeO.bind ?_ (fun _ => ?_))
   | exact ih0 _ _ _
   | exact LeO.none _
   | refine LeO.ite ?_ ?_
   | refine LeO.bind ?_ (fun _ => ?_)
theorem gnomonref01_Bit.jc : ∀ k : Nat, (∀ (x0 : List Int) (x1 : Int) (x13 : Bool) (r : Int), gnomonref01_Bit.j0 k x0 x1 x13 = some r → Fin Tryz.prog Gw 138 (nav (bodyOf Tryz.f138) [1, 0, 1] []) ⟨mkT 24 [(0, .s (.sl .u32 x0)), (1, .s (.i .i64 x1)), (13, .s (.b x13))], []⟩ (· = .s (.i .i64 r)))
 | 0 => (fun _ _ _ _ h => nn h)
 | k + 1 => by
  have ih := gnomonref01_Bit.jc k
  ·intro x0 x1 x13 r h
   rw [gnomonref01_Bit.j0] at h
   rcases ite_e h with ⟨c1, h⟩ | ⟨c1, h⟩
   ·have h := si h; subst h
    exact jth Tryz.func138 [.br true] (fun e => ai c1 e) (by kernel_rfl)
   ·rcases ite_e h with ⟨c2, h⟩ | ⟨c2, h⟩
    ·rcases ite_e h with ⟨c3, h⟩ | ⟨c3, h⟩
     ·rcases ite_e h with ⟨c4, h⟩ | ⟨c4, h⟩
      ·have h := si h; subst h
       exact jth Tryz.func138 [.br false] (fun e => ai (z0 c1) (ai (by decide : (32 : Int) ≠ 0) (ai c2 (ai c3 (ai (by decide : (32 : Int) ≠ 0) (ai c4 e)))))) (by kernel_rfl)
      ·cases h
     ·cases h
    ·cases h
theorem gnomonref01_Bit.c {k : Nat} {l0 : List Int} {a1 : Int} {r : Int} (h : gnomonref01_Bit.f k l0 a1 = some r) : Con Tryz.prog Gw 138 [.s (.sl .u32 l0), .s (.i .i64 a1)] (· = .s (.i .i64 r)) := by
 unfold gnomonref01_Bit.f at h
 rcases ite_e h with ⟨c1, h⟩ | ⟨c1, h⟩
 ·exact pth Tryz.func138 [.br true, .br true, .br true, .br true, .br true, .br true, .cut 0 [0, 1, 13] [] []] (fun _ => ai (d1 c1) (ai (d1 c1) (ai (d1 c1) (ai (d1 c1) (ai (d1 c1) (ai (d1 c1) (gnomonref01_Bit.jc k _ _ _ _ h))))))) (by kernel_rfl)
 ·exact pth Tryz.func138 [.br false, .br false, .br false, .br false, .br false, .br false, .cut 0 [0, 1, 13] [] []] (fun _ => ai (d0 c1) (ai (d0 c1) (ai (by decide : (32 : Int) ≠ 0) (ai (d0 c1) (ai (d0 c1) (ai (d0 c1) (ai (d0 c1) (gnomonref01_Bit.jc k _ _ _ _ h)))))))) (by kernel_rfl)
mutual
def gnomonref01_Zeros.l0 : Nat → List Int → Int → Option (Int)
 | 0, _, _ => none
 | k + 1, x0, x3 => if (wrap64 (Int.tdiv x3 32)) < (x0.length : Int) then (if 0 ≤ (wrap64 (Int.tdiv x3 32)) then (gnomonref01_Zeros.j1 k x0 x3 ((rd x0 (wrap64 (Int.tdiv x3 32))) == 0)) else (none)) else (gnomonref01_Zeros.j1 k x0 x3 false)
def gnomonref01_Zeros.j1 : Nat → List Int → Int → Bool → Option (Int)
 | 0, _, _, _ => none
 | k + 1, x0, x3, x19 => if x19 = true then (gnomonref01_Zeros.l0 k x0 (wrap64 (x3 + 32))) else (gnomonref01_Zeros.l1 k x0 x3)
def gnomonref01_Zeros.l1 : Nat → List Int → Int → Option (Int)
 | 0, _, _ => none
 | k + 1, x0, x3 => (gnomonref01_Bit.f k x0 x3).bind fun t108 => (if t108 = 0 then (gnomonref01_Zeros.l1 k x0 (wrap64 (x3 + 1))) else (some x3))
end
def gnomonref01_Zeros.f (k : Nat) (l0 : List Int) : Option (Int) := if (l0.length : Int) = 0 then (some 0) else (gnomonref01_Zeros.l0 k l0 0)
theorem gnomonref01_Zeros.mono_l : ∀ k, (∀ y0 y1, LeO (gnomonref01_Zeros.l0 k y0 y1) (gnomonref01_Zeros.l0 (k + 1) y0 y1)) ∧ (∀ y0 y1 y2, LeO (gnomonref01_Zeros.j1 k y0 y1 y2) (gnomonref01_Zeros.j1 (k + 1) y0 y1 y2)) ∧ (∀ y0 y1, LeO (gnomonref01_Zeros.l1 k y0 y1) (gnomonref01_Zeros.l1 (k + 1) y0 y1))
 | 0 => ⟨fun _ _ r h => by simp [gnomonref01_Zeros.l0] at h, fun _ _ _ r h => by simp [gnomonref01_Zeros.j1] at h, fun _ _ r h => by simp [gnomonref01_Zeros.l1] at h⟩
 | k + 1 => by
  obtain ⟨ih0, ih1, ih2⟩ := gnomonref01_Zeros.mono_l k
  refine ⟨?_, ?_, ?_⟩
  ·intro y0 y1
   unfold gnomonref01_Zeros.l0
   repeat' first
   | (with_reducible exact ih0 _ _)
   | (with_reducible exact ih1 _ _ _)
   | (with_reducible exact ih2 _ _)
   | (with_reducible exact gnomonref01_Bit.mono _ _ _)
   | (with_reducible exact LeO.refl _)
   | (with_reducible exact LeO.none _)
   | (with_reducible refine LeO.ite ?_ ?_)
   | (with_reducible refine LeO.bind ?_ (fun _ => ?_))
   | exact ih0 _ _
   | exact ih1 _ _ _
   | exact ih2 _ _
   | exact gnomonref01_Bit.mono _ _ _
   | exact LeO.none _
   | refine LeO.ite ?_ ?_
   | refine LeO.bind ?_ (fun _ => ?_)
  ·intro y0 y1 y2
   unfold gnomonref01_Zeros.j1
   repeat' first
   | (with_reducible exact ih0 _ _)
   | (with_reducible exact ih1 _ _ _)
   | (with_reducible exact ih2 _ _)
   | (with_reducible exact gnomonref01_Bit.mono _ _ _)
   | (with_reducible exact LeO.refl _)
   | (with_reducible exact LeO.none _)
   | (with_reducible refine LeO.ite ?_ ?_)
   | (with_reducible refine LeO.bind ?_ (fun _ => ?_))
   | exact ih0 _ _
   | exact ih1 _ _ _
   | exact ih2 _ _
   | exact gnomonref01_Bit.mono _ _ _
   | exact LeO.none _
   | refine LeO.ite ?_ ?_
   | refine LeO.bind ?_ (fun _ => ?_)
  ·intro y0 y1
   unfold gnomonref01_Zeros.l1
   repeat' first
   | (with_reducible exact ih0 _ _)
   | (with_reducible exact ih1 _ _ _)
   | (with_reducible exact ih2 _ _)
   | (with_reducible exact gnomonref01_Bit.mono _ _ _)
   | (with_reducible exact LeO.refl _)
   | (with_reducible exact LeO.none _)
   | (with_reducible refine LeO.ite ?_ ?_)
   | (with_reducible refine LeO.bind ?_ (fun _ => ?_))
   | exact ih0 _ _
   | exact ih1 _ _ _
   | exact ih2 _ _
   | exact gnomonref01_Bit.mono _ _ _
   | exact LeO.none _
   | refine LeO.ite ?_ ?_
   | refine LeO.bind ?_ (fun _ => ?_)
theorem gnomonref01_Zeros.mono : ∀ a0 k, LeO (gnomonref01_Zeros.f k a0) (gnomonref01_Zeros.f (k + 1) a0) := by
 intro a0 k
 obtain ⟨ih0, ih1, ih2⟩ := gnomonref01_Zeros.mono_l k
 unfold gnomonref01_Zeros.f
 repeat' first
   | (with_reducible exact ih0 _ _)
   | (with_reducible exact ih1 _ _ _)
   | (with_reducible exact ih2 _ _)
   | (with_reducible exact gnomonref01_Bit.mono _ _ _)
   | (with_reducible exact LeO.refl _)
   | (with_reducible exact LeO.none _)
   | (with_reducible refine LeO.ite ?_ ?_)
   | (with_reducible refine LeO.bind ?_ (fun _ => ?_))
   | exact ih0 _ _
   | exact ih1 _ _ _
   | exact ih2 _ _
   | exact gnomonref01_Bit.mono _ _ _
   | exact LeO.none _
   | refine LeO.ite ?_ ?_
   | refine LeO.bind ?_ (fun _ => ?_)
theorem gnomonref01_Zeros.jc : ∀ k : Nat, (∀ (x0 : List Int) (x3 : Int) (x19 : Bool) (r : Int), gnomonref01_Zeros.j1 k x0 x3 x19 = some r → Fin Tryz.prog Gw 131 (nav (bodyOf Tryz.f131) [1, 1, 1, 0, 0, 0, 0, 1] []) ⟨mkT 29 [(0, .s (.sl .u32 x0)), (3, .s (.i .i64 x3)), (19, .s (.b x19))], []⟩ (· = .s (.i .i64 r))) ∧ (∀ (x0 : List Int) (x3 : Int) (r : Int), gnomonref01_Zeros.l0 k x0 x3 = some r → Fin Tryz.prog Gw 131 (nav (bodyOf Tryz.f131) [1, 1, 1, 0, 0, 0] []) ⟨mkT 29 [(0, .s (.sl .u32 x0)), (3, .s (.i .i64 x3))], []⟩ (· = .s (.i .i64 r))) ∧ (∀ (x0 : List Int) (x3 : Int) (r : Int), gnomonref01_Zeros.l1 k x0 x3 = some r → Fin Tryz.prog Gw 131 (nav (bodyOf Tryz.f131) [1, 1, 1, 1, 0, 0, 0] []) ⟨mkT 29 [(0, .s (.sl .u32 x0)), (3, .s (.i .i64 x3))], []⟩ (· = .s (.i .i64 r)))
 | 0 => ⟨(fun _ _ _ _ h => nn h), (fun _ _ _ h => nn h), (fun _ _ _ h => nn h)⟩
 | k + 1 => by
  have ih := gnomonref01_Zeros.jc k
  refine ⟨?_, ?_, ?_⟩
  ·intro x0 x3 x19 r h
   rw [gnomonref01_Zeros.j1] at h
   rcases ite_e h with ⟨c1, h⟩ | ⟨c1, h⟩
   ·exact jth Tryz.func131 [.br true, .cut 1 [0, 3] [] []] (fun _ => ai c1 (ih.2.1 _ _ _ h)) (by kernel_rfl)
   ·exact jth Tryz.func131 [.br false, .cut 0 [0, 3] [] []] (fun _ => ai (z0 c1) (ih.2.2 _ _ _ h)) (by kernel_rfl)
  ·intro x0 x3 r h
   rw [gnomonref01_Zeros.l0] at h
   rcases ite_e h with ⟨c1, h⟩ | ⟨c1, h⟩
   ·rcases ite_e h with ⟨c2, h⟩ | ⟨c2, h⟩
    ·exact jth Tryz.func131 [.br true, .br true, .br true, .br true, .br true, .br true, .br true, .cut 0 [0, 3, 19] [] []] (fun _ => ai (by decide : (32 : Int) ≠ 0) (ai (d1 c1) (ai (d1 c1) (ai (d1 c1) (ai (by decide : (32 : Int) ≠ 0) (ai (d1 c1) (ai c2 (ai c1 (ai (d1 c1) (ai (d1 c1) (ai (d1 c1) (ih.1 _ _ _ _ h)))))))))))) (by kernel_rfl)
    ·cases h
   ·exact jth Tryz.func131 [.br false, .br false, .br false, .br false, .br false, .br false, .br false, .cut 0 [0, 3, 19] [] []] (fun _ => ai (by decide : (32 : Int) ≠ 0) (ai (d0 c1) (ai (d0 c1) (ai (d0 c1) (ai (d0 c1) (ai (d0 c1) (ai (d0 c1) (ai (d0 c1) (ih.1 _ _ _ _ h))))))))) (by kernel_rfl)
  ·intro x0 x3 r h
   rw [gnomonref01_Zeros.l1] at h
   obtain ⟨t108, A1, h⟩ := bnd h
   rcases ite_e h with ⟨c2, h⟩ | ⟨c2, h⟩
   ·exact jth Tryz.func131 [.r (.s (.i .i64 t108)), .br true, .cut 1 [0, 3] [] []] (fun _ => ai (gnomonref01_Bit.c A1) (ai (q1 c2) (ih.2.2 _ _ _ h))) (by kernel_rfl)
   ·have h := si h; subst h
    exact jth Tryz.func131 [.r (.s (.i .i64 t108)), .br false] (fun e => ai (gnomonref01_Bit.c A1) (ai (q0 c2) e)) (by kernel_rfl)
theorem gnomonref01_Zeros.c {k : Nat} {l0 : List Int} {r : Int} (h : gnomonref01_Zeros.f k l0 = some r) : Con Tryz.prog Gw 131 [.s (.sl .u32 l0)] (· = .s (.i .i64 r)) := by
 unfold gnomonref01_Zeros.f at h
 rcases ite_e h with ⟨c1, h⟩ | ⟨c1, h⟩
 ·have h := si h; subst h
  exact pth Tryz.func131 [.br true] (fun e => ai (q1 c1) e) (by kernel_rfl)
 ·exact pth Tryz.func131 [.br false, .cut 1 [0, 3] [] []] (fun _ => ai (q0 c1) ((gnomonref01_Zeros.jc k).2.1 _ _ _ h)) (by kernel_rfl)
def dyadic_nought.f (a0_0 : Bool) (l0_1 : List Int) (a0_2 : Int) : Option (Bool) := some ((l0_1.length : Int) == 0)
theorem dyadic_nought.c {a0_0 : Bool} {l0_1 : List Int} {a0_2 : Int} {r : Bool} (h : dyadic_nought.f a0_0 l0_1 a0_2 = some r) : Con Tryz.prog Gw 59 [.ag [.b a0_0, .sl .u64 l0_1, .i .i64 a0_2]] (· = .s (.b r)) := by
 unfold dyadic_nought.f at h
 have h := si h; subst h
 exact pth Tryz.func59 [] (fun e => e) (by kernel_rfl)
def nat_Form.f (l0 : List Int) : Option (Bool) := if (l0.length : Int) ≤ 8192 then (if (l0.length : Int) = 0 then (some true) else (if 0 ≤ (wrap64 ((l0.length : Int) - 1)) then (if (wrap64 ((l0.length : Int) - 1)) < (l0.length : Int) then (some ((rd l0 (wrap64 ((l0.length : Int) - 1))) != 0)) else (none)) else (none))) else (some false)
theorem nat_Form.c {l0 : List Int} {r : Bool} (h : nat_Form.f l0 = some r) : Con Tryz.prog Gw 108 [.s (.sl .u64 l0)] (· = .s (.b r)) := by
 unfold nat_Form.f at h
 rcases ite_e h with ⟨c1, h⟩ | ⟨c1, h⟩
 ·rcases ite_e h with ⟨c2, h⟩ | ⟨c2, h⟩
  ·have h := si h; subst h
   exact pth Tryz.func108 [.br true, .br true, .br true, .br true, .br true, .br true, .br true, .br true, .br true, .br true, .br true, .br true, .br true, .br true] (fun e => ai (d1 c1) (ai (d1 c1) (ai (d1 c1) (ai (d1 c1) (ai (q1 c2) (ai (q1 c2) (ai (q1 c2) (ai (q1 c2) (ai (q1 c2) (ai (q1 c2) (ai (q1 c2) (ai (d1 c1) (ai (q1 c2) (ai (d1 c1) e)))))))))))))) (by kernel_rfl)
  ·rcases ite_e h with ⟨c3, h⟩ | ⟨c3, h⟩
   ·rcases ite_e h with ⟨c4, h⟩ | ⟨c4, h⟩
    ·have h := si h; subst h
     exact pth Tryz.func108 [.br true, .br true, .br true, .br true, .br false, .br false, .br false, .br false, .br false, .br false, .br false, .br true, .br false, .br true] (fun e => ai (d1 c1) (ai (d1 c1) (ai (d1 c1) (ai (d1 c1) (ai (q0 c2) (ai (q0 c2) (ai (q0 c2) (ai (q0 c2) (ai (q0 c2) (ai c3 (ai c4 (ai (q0 c2) (ai (q0 c2) (ai (d1 c1) (ai (q0 c2) (ai (d1 c1) e)))))))))))))))) (by kernel_rfl)
    ·cases h
   ·cases h
 ·have h := si h; subst h
  exact pth Tryz.func108 [.br false, .br false, .br false, .br false, .br false, .br false] (fun e => ai (d0 c1) (ai (d0 c1) (ai (d0 c1) (ai (d0 c1) (ai (d0 c1) (ai (d0 c1) e)))))) (by kernel_rfl)
def num_Form.f (a0_0 : Bool) (l0_1 : List Int) : Option (Bool) := (nat_Form.f l0_1).bind fun t284 => (if t284 = true then (if a0_0 = true then (some (!((l0_1.length : Int) == 0))) else (some (!false))) else (some false))
theorem num_Form.c {a0_0 : Bool} {l0_1 : List Int} {r : Bool} (h : num_Form.f a0_0 l0_1 = some r) : Con Tryz.prog Gw 82 [.ag [.b a0_0, .sl .u64 l0_1]] (· = .s (.b r)) := by
 unfold num_Form.f at h
 obtain ⟨t284, A1, h⟩ := bnd h
 rcases ite_e h with ⟨c2, h⟩ | ⟨c2, h⟩
 ·rcases ite_e h with ⟨c3, h⟩ | ⟨c3, h⟩
  ·have h := si h; subst h
   exact pth Tryz.func82 [.r (.s (.b t284)), .br true, .br true, .br true, .br true, .br true, .br true, .br true, .br true, .br true, .br true, .br true] (fun e => ai (nat_Form.c A1) (ai c2 (ai c2 (ai c2 (ai c3 (ai c3 (ai c3 (ai c3 (ai c2 (ai c3 (ai c2 (ai c2 e)))))))))))) (by kernel_rfl)
  ·have h := si h; subst h
   exact pth Tryz.func82 [.r (.s (.b t284)), .br true, .br true, .br true, .br false, .br false, .br false, .br false, .br true, .br false, .br true, .br true] (fun e => ai (nat_Form.c A1) (ai c2 (ai c2 (ai c2 (ai (z0 c3) (ai (z0 c3) (ai (z0 c3) (ai (z0 c3) (ai c2 (ai (z0 c3) (ai c2 (ai c2 e)))))))))))) (by kernel_rfl)
 ·have h := si h; subst h
  exact pth Tryz.func82 [.r (.s (.b t284)), .br false, .br false, .br false, .br false, .br false, .br false] (fun e => ai (nat_Form.c A1) (ai (z0 c2) (ai (z0 c2) (ai (z0 c2) (ai (z0 c2) (ai (z0 c2) (ai (z0 c2) e))))))) (by kernel_rfl)
def dyadic_Form.j0 : Nat → Bool → Bool → List Int → Int → Option (Bool)
 | 0, _, _, _, _ => none
 | k + 1, x16, x286000, x286001, x286002 => if x16 = true then (some false) else ((dyadic_nought.f x286000 x286001 x286002).bind fun t287 => (if t287 = true then (some (x286002 == 0)) else (if 0 < (x286001.length : Int) then (some ((Go.bits .and .u64 (rd x286001 0) 1) == 1)) else (none))))
def dyadic_Form.f (k : Nat) (a0_0 : Bool) (l0_1 : List Int) (a0_2 : Int) : Option (Bool) := (num_Form.f a0_0 l0_1).bind fun t286 => (if t286 = true then (if a0_2 < (-1048576) then (dyadic_Form.j0 k true a0_0 l0_1 a0_2) else (dyadic_Form.j0 k (decide (a0_2 > 1048576)) a0_0 l0_1 a0_2)) else (dyadic_Form.j0 k true a0_0 l0_1 a0_2))
theorem dyadic_Form.mono_l : ∀ k, (∀ y0 y1 y2 y3, LeO (dyadic_Form.j0 k y0 y1 y2 y3) (dyadic_Form.j0 (k + 1) y0 y1 y2 y3))
 | 0 => fun _ _ _ _ r h => by simp [dyadic_Form.j0] at h
 | k + 1 => by
  have ih0 := dyadic_Form.mono_l k
  ·intro y0 y1 y2 y3
   unfold dyadic_Form.j0
   repeat' first
   | (with_reducible exact ih0 _ _ _ _)
   | (with_reducible exact LeO.refl _)
   | (with_reducible exact LeO.none _)
   | (with_reducible refine LeO.ite ?_ ?_)
   | (with_reducible refine LeO.bind ?_ (fun _ => ?_))
   | exact ih0 _ _ _ _
   | exact LeO.none _
   | refine LeO.ite ?_ ?_
   | refine LeO.bind ?_ (fun _ => ?_)
theorem dyadic_Form.mono : ∀ a0 a1 a2 k, LeO (dyadic_Form.f k a0 a1 a2) (dyadic_Form.f (k + 1) a0 a1 a2) := by
 intro a0 a1 a2 k
 have ih0 := dyadic_Form.mono_l k
 unfold dyadic_Form.f
 repeat' first
   | (with_reducible exact ih0 _ _ _ _)
   | (with_reducible exact LeO.refl _)
   | (with_reducible exact LeO.none _)
   | (with_reducible refine LeO.ite ?_ ?_)
   | (with_reducible refine LeO.bind ?_ (fun _ => ?_))
   | exact ih0 _ _ _ _
   | exact LeO.none _
   | refine LeO.ite ?_ ?_
   | refine LeO.bind ?_ (fun _ => ?_)
theorem dyadic_Form.jc : ∀ k : Nat, (∀ (x16 : Bool) (x286000 : Bool) (x286001 : List Int) (x286002 : Int) (r : Bool), dyadic_Form.j0 k x16 x286000 x286001 x286002 = some r → Fin Tryz.prog Gw 53 (nav (bodyOf Tryz.f53) [1, 0, 1] []) ⟨mkT 29 [(1, .s (.lo 0 0)), (16, .s (.b x16))], [some (50, [.b x286000, .sl .u64 x286001, .i .i64 x286002])]⟩ (· = .s (.b r)))
 | 0 => (fun _ _ _ _ _ h => nn h)
 | k + 1 => by
  have ih := dyadic_Form.jc k
  ·intro x16 x286000 x286001 x286002 r h
   rw [dyadic_Form.j0] at h
   rcases ite_e h with ⟨c1, h⟩ | ⟨c1, h⟩
   ·have h := si h; subst h
    exact jth Tryz.func53 [.br true] (fun e => ai c1 e) (by kernel_rfl)
   ·obtain ⟨t287, A2, h⟩ := bnd h
    rcases ite_e h with ⟨c3, h⟩ | ⟨c3, h⟩
    ·have h := si h; subst h
     exact jth Tryz.func53 [.br false, .r (.s (.b t287)), .br true] (fun e => ai (z0 c1) (ai (dyadic_nought.c A2) (ai c3 e))) (by kernel_rfl)
    ·rcases ite_e h with ⟨c4, h⟩ | ⟨c4, h⟩
     ·have h := si h; subst h
      exact jth Tryz.func53 [.br false, .r (.s (.b t287)), .br false] (fun e => ai (z0 c1) (ai (dyadic_nought.c A2) (ai (z0 c3) (ai (by decide : (0 : Int) ≤ 0) (ai c4 e))))) (by kernel_rfl)
     ·cases h
theorem dyadic_Form.c {k : Nat} {a0_0 : Bool} {l0_1 : List Int} {a0_2 : Int} {r : Bool} (h : dyadic_Form.f k a0_0 l0_1 a0_2 = some r) : Con Tryz.prog Gw 53 [.ag [.b a0_0, .sl .u64 l0_1, .i .i64 a0_2]] (· = .s (.b r)) := by
 unfold dyadic_Form.f at h
 obtain ⟨t286, A1, h⟩ := bnd h
 rcases ite_e h with ⟨c2, h⟩ | ⟨c2, h⟩
 ·rcases ite_e h with ⟨c3, h⟩ | ⟨c3, h⟩
  ·exact pth Tryz.func53 [.r (.s (.b t286)), .br false, .br false, .br false, .br false, .br true, .br true, .br true, .br true, .cut 0 [1, 16] [0] []] (fun _ => ai (num_Form.c A1) (ai (nt1 c2) (ai (nt1 c2) (ai (nt1 c2) (ai (nt1 c2) (ai (d1 c3) (ai (d1 c3) (ai (d1 c3) (ai (d1 c3) (dyadic_Form.jc k _ _ _ _ _ h)))))))))) (by kernel_rfl)
  ·exact pth Tryz.func53 [.r (.s (.b t286)), .br false, .br false, .br false, .br false, .br false, .br false, .br false, .br false, .cut 0 [1, 16] [0] []] (fun _ => ai (num_Form.c A1) (ai (nt1 c2) (ai (nt1 c2) (ai (nt1 c2) (ai (nt1 c2) (ai (d0 c3) (ai (d0 c3) (ai (d0 c3) (ai (d0 c3) (dyadic_Form.jc k _ _ _ _ _ h)))))))))) (by kernel_rfl)
 ·exact pth Tryz.func53 [.r (.s (.b t286)), .br true, .br true, .br true, .br true, .br true, .br true, .br true, .br true, .cut 0 [1, 16] [0] []] (fun _ => ai (num_Form.c A1) (ai (nt0 (z0 c2)) (ai (nt0 (z0 c2)) (ai (nt0 (z0 c2)) (ai (nt0 (z0 c2)) (ai tt (ai tt (ai tt (ai tt (dyadic_Form.jc k _ _ _ _ _ h)))))))))) (by kernel_rfl)
def num_Sign.f (a0_0 : Bool) (l0_1 : List Int) : Option (Int) := (nat_Bits.f l0_1).bind fun t290 => (if t290 = 0 then (some 0) else (if a0_0 = true then (some (-1)) else (some 1)))
def num_whole.f (a0 : Bool) (l1 : List Int) : Option (Bool × List Int) := if a0 = true then (some (decide ((l1.length : Int) > 0), l1)) else (some (false, l1))
theorem num_whole.c {a0 : Bool} {l1 : List Int} {r : Bool × List Int} (h : num_whole.f a0 l1 = some r) : Con Tryz.prog Gw 111 [.s (.b a0), .s (.sl .u64 l1)] (· = .ag [.b r.1, .sl .u64 r.2]) := by
 unfold num_whole.f at h
 rcases ite_e h with ⟨c1, h⟩ | ⟨c1, h⟩
 ·have h := si h; subst h
  exact pth Tryz.func111 [.br true, .br true, .br true, .br true] (fun e => ai c1 (ai c1 (ai c1 (ai c1 e)))) (by kernel_rfl)
 ·have h := si h; subst h
  exact pth Tryz.func111 [.br false, .br false, .br false, .br false] (fun e => ai (z0 c1) (ai (z0 c1) (ai (z0 c1) (ai (z0 c1) e)))) (by kernel_rfl)
def num_told.f (a0 : Bool) (l1 : List Int) (a2 : Int) : Option (Bool × List Int × Int) := if a2 = 0 then ((num_whole.f a0 l1).bind fun bt321 => (some (bt321.1, bt321.2, 0))) else (some (false, ([] : List Int), a2))
theorem num_told.c {a0 : Bool} {l1 : List Int} {a2 : Int} {r : Bool × List Int × Int} (h : num_told.f a0 l1 a2 = some r) : Con Tryz.prog Gw 84 [.s (.b a0), .s (.sl .u64 l1), .s (.i .i64 a2)] (· = .tu [.ag [.b r.1, .sl .u64 r.2.1], .s (.i .i64 r.2.2)]) := by
 unfold num_told.f at h
 rcases ite_e h with ⟨c1, h⟩ | ⟨c1, h⟩
 ·obtain ⟨bt321, A2, h⟩ := bnd h
  have h := si h; subst h
  exact pth Tryz.func84 [.br false, .r (.ag [.b bt321.1, .sl .u64 bt321.2])] (fun e => ai (n0 c1) (ai (num_whole.c A2) e)) (by kernel_rfl)
 ·have h := si h; subst h
  exact pth Tryz.func84 [.br true] (fun e => ai (n1 c1) e) (by kernel_rfl)
def num_Shl.f (a0_0 : Bool) (l0_1 : List Int) (a1 : Int) : Option (Bool × List Int × Int) := if a1 < 0 then (some (false, ([] : List Int), 1)) else ((num_Form.f a0_0 l0_1).bind fun t327 => (if t327 = true then ((nat_Shl.f l0_1 a1).bind fun bt328 => ((num_told.f a0_0 bt328.1 bt328.2).bind fun bt332 => (some (bt332.1, bt332.2.1, bt332.2.2)))) else (some (false, ([] : List Int), 2))))
theorem num_Shl.c {a0_0 : Bool} {l0_1 : List Int} {a1 : Int} {r : Bool × List Int × Int} (h : num_Shl.f a0_0 l0_1 a1 = some r) : Con Tryz.prog Gw 61 [.ag [.b a0_0, .sl .u64 l0_1], .s (.i .i64 a1)] (· = .tu [.ag [.b r.1, .sl .u64 r.2.1], .s (.i .i64 r.2.2)]) := by
 unfold num_Shl.f at h
 rcases ite_e h with ⟨c1, h⟩ | ⟨c1, h⟩
 ·have h := si h; subst h
  exact pth Tryz.func61 [.br true] (fun e => ai (d1 c1) e) (by kernel_rfl)
 ·obtain ⟨t327, A2, h⟩ := bnd h
  rcases ite_e h with ⟨c3, h⟩ | ⟨c3, h⟩
  ·obtain ⟨bt328, A4, h⟩ := bnd h
   obtain ⟨bt332, A5, h⟩ := bnd h
   have h := si h; subst h
   exact pth Tryz.func61 [.br false, .r (.s (.b t327)), .br false, .r (.tu [.s (.sl .u64 bt328.1), .s (.i .i64 bt328.2)]), .r (.tu [.ag [.b bt332.1, .sl .u64 bt332.2.1], .s (.i .i64 bt332.2.2)])] (fun e => ai (d0 c1) (ai (num_Form.c A2) (ai (nt1 c3) (ai (nat_Shl.c A4) (ai (num_told.c A5) e))))) (by kernel_rfl)
  ·have h := si h; subst h
   exact pth Tryz.func61 [.br false, .r (.s (.b t327)), .br true] (fun e => ai (d0 c1) (ai (num_Form.c A2) (ai (nt0 (z0 c3)) e))) (by kernel_rfl)
def nat_Word.f (a0 : Int) : Option (List Int) := if a0 = 0 then (some ([] : List Int)) else (some (([a0] : List Int)))
theorem nat_Word.c {a0 : Int} {r : List Int} (h : nat_Word.f a0 = some r) : Con Tryz.prog Gw 107 [.s (.i .u64 a0)] (· = .s (.sl .u64 r)) := by
 unfold nat_Word.f at h
 rcases ite_e h with ⟨c1, h⟩ | ⟨c1, h⟩
 ·have h := si h; subst h
  exact pth Tryz.func107 [.br true] (fun e => ai (q1 c1) e) (by kernel_rfl)
 ·have h := si h; subst h
  exact pth Tryz.func107 [.br false] (fun e => ai (q0 c1) e) (by kernel_rfl)
def gnomonref07_Of.f (a0 : Int) : Option (Int × Int × Int × Int × Int × Int × Bool) := if a0 = 32 then (some (2147483648, 24, (-149), 104, 2139095040, 2143289345, true)) else (if a0 = 64 then (some (9223372036854775808, 53, (-1074), 971, 9218868437227405312, 9221120237041090561, true)) else (some (0, 0, 0, 0, 0, 0, false)))
theorem gnomonref07_Of.c {a0 : Int} {r : Int × Int × Int × Int × Int × Int × Bool} (h : gnomonref07_Of.f a0 = some r) : Con Tryz.prog Gw 97 [.s (.i .i64 a0)] (· = .tu [.ag [.i .u64 r.1, .i .i64 r.2.1, .i .i64 r.2.2.1, .i .i64 r.2.2.2.1, .i .u64 r.2.2.2.2.1, .i .u64 r.2.2.2.2.2.1], .s (.b r.2.2.2.2.2.2)]) := by
 unfold gnomonref07_Of.f at h
 rcases ite_e h with ⟨c1, h⟩ | ⟨c1, h⟩
 ·have h := si h; subst h
  exact pth Tryz.func97 [.br true] (fun e => ai (q1 c1) e) (by kernel_rfl)
 ·rcases ite_e h with ⟨c2, h⟩ | ⟨c2, h⟩
  ·have h := si h; subst h
   exact pth Tryz.func97 [.br false, .br true] (fun e => ai (q0 c1) (ai (q1 c2) e)) (by kernel_rfl)
  ·have h := si h; subst h
   exact pth Tryz.func97 [.br false, .br false] (fun e => ai (q0 c1) (ai (q0 c2) e)) (by kernel_rfl)
def gnomonref07_Cut.f (a0_0 : Int) (a0_1 : Int) (a0_2 : Int) (a0_3 : Int) (a0_4 : Int) (a0_5 : Int) (a1 : Int) : Option (Bool × Int) := if a0_0 = 0 then (none) else (some (decide (a1 ≥ a0_0), Int.tmod a1 a0_0))
theorem gnomonref07_Cut.c {a0_0 : Int} {a0_1 : Int} {a0_2 : Int} {a0_3 : Int} {a0_4 : Int} {a0_5 : Int} {a1 : Int} {r : Bool × Int} (h : gnomonref07_Cut.f a0_0 a0_1 a0_2 a0_3 a0_4 a0_5 a1 = some r) : Con Tryz.prog Gw 124 [.ag [.i .u64 a0_0, .i .i64 a0_1, .i .i64 a0_2, .i .i64 a0_3, .i .u64 a0_4, .i .u64 a0_5], .s (.i .u64 a1)] (· = .tu [.s (.b r.1), .s (.i .u64 r.2)]) := by
 unfold gnomonref07_Cut.f at h
 rcases ite_e h with ⟨c1, h⟩ | ⟨c1, h⟩
 ·cases h
 ·have h := si h; subst h
  exact pth Tryz.func124 [] (fun e => ai c1 e) (by kernel_rfl)
def binary_shape_sign.f (a0_0 : Int) (a0_1 : Int) (a0_2 : Int) (a0_3 : Int) : Option (Int) := if 0 ≤ (wrap64 (a0_0 - 1)) then (some (shl .u64 1 (wrap64 (a0_0 - 1)))) else (none)
theorem binary_shape_sign.c {a0_0 : Int} {a0_1 : Int} {a0_2 : Int} {a0_3 : Int} {r : Int} (h : binary_shape_sign.f a0_0 a0_1 a0_2 a0_3 = some r) : Con Tryz.prog Gw 126 [.ag [.i .i64 a0_0, .i .i64 a0_1, .i .i64 a0_2, .i .u64 a0_3]] (· = .s (.i .u64 r)) := by
 unfold binary_shape_sign.f at h
 rcases ite_e h with ⟨c1, h⟩ | ⟨c1, h⟩
 ·have h := si h; subst h
  exact pth Tryz.func126 [] (fun e => ai c1 e) (by kernel_rfl)
 ·cases h
def binary_shape_hidden.f (a0_0 : Int) (a0_1 : Int) (a0_2 : Int) (a0_3 : Int) : Option (Int) := if 0 ≤ (wrap64 (a0_1 - 1)) then (some (shl .u64 1 (wrap64 (a0_1 - 1)))) else (none)
theorem binary_shape_hidden.c {a0_0 : Int} {a0_1 : Int} {a0_2 : Int} {a0_3 : Int} {r : Int} (h : binary_shape_hidden.f a0_0 a0_1 a0_2 a0_3 = some r) : Con Tryz.prog Gw 106 [.ag [.i .i64 a0_0, .i .i64 a0_1, .i .i64 a0_2, .i .u64 a0_3]] (· = .s (.i .u64 r)) := by
 unfold binary_shape_hidden.f at h
 rcases ite_e h with ⟨c1, h⟩ | ⟨c1, h⟩
 ·have h := si h; subst h
  exact pth Tryz.func106 [] (fun e => ai c1 e) (by kernel_rfl)
 ·cases h
def binary_shape_inf.f (a0_0 : Int) (a0_1 : Int) (a0_2 : Int) (a0_3 : Int) : Option (Int) := (binary_shape_sign.f a0_0 a0_1 a0_2 a0_3).bind fun t447 => ((binary_shape_hidden.f a0_0 a0_1 a0_2 a0_3).bind fun t448 => (some (IntKind.u64.wrap (t447 - t448))))
theorem binary_shape_inf.c {a0_0 : Int} {a0_1 : Int} {a0_2 : Int} {a0_3 : Int} {r : Int} (h : binary_shape_inf.f a0_0 a0_1 a0_2 a0_3 = some r) : Con Tryz.prog Gw 105 [.ag [.i .i64 a0_0, .i .i64 a0_1, .i .i64 a0_2, .i .u64 a0_3]] (· = .s (.i .u64 r)) := by
 unfold binary_shape_inf.f at h
 obtain ⟨t447, A1, h⟩ := bnd h
 obtain ⟨t448, A2, h⟩ := bnd h
 have h := si h; subst h
 exact pth Tryz.func105 [.r (.s (.i .u64 t447)), .r (.s (.i .u64 t448))] (fun e => ai (binary_shape_sign.c A1) (ai (binary_shape_hidden.c A2) e)) (by kernel_rfl)
def binary_shapeOf.f (a0 : Int) : Option (Int × Int × Int × Int) := if a0 = 32 then (some (32, 24, (-149), 2143289345)) else (if a0 = 64 then (some (64, 53, (-1074), 9221120237041090561)) else (some (0, 0, 0, 0)))
theorem binary_shapeOf.c {a0 : Int} {r : Int × Int × Int × Int} (h : binary_shapeOf.f a0 = some r) : Con Tryz.prog Gw 125 [.s (.i .i64 a0)] (· = .ag [.i .i64 r.1, .i .i64 r.2.1, .i .i64 r.2.2.1, .i .u64 r.2.2.2]) := by
 unfold binary_shapeOf.f at h
 rcases ite_e h with ⟨c1, h⟩ | ⟨c1, h⟩
 ·have h := si h; subst h
  exact pth Tryz.func125 [.br true] (fun e => ai (q1 c1) e) (by kernel_rfl)
 ·rcases ite_e h with ⟨c2, h⟩ | ⟨c2, h⟩
  ·have h := si h; subst h
   exact pth Tryz.func125 [.br false, .br true] (fun e => ai (q0 c1) (ai (q1 c2) e)) (by kernel_rfl)
  ·have h := si h; subst h
   exact pth Tryz.func125 [.br false, .br false] (fun e => ai (q0 c1) (ai (q0 c2) e)) (by kernel_rfl)
def binary_take.j0 : Nat → Int → Bool → Int → Int → Int → Int → Option (Int × Int × Int × Int × Bool × Int × Int)
 | 0, _, _, _, _, _, _ => none
 | k + 1, x1, x24, x456000, x456001, x456002, x456003 => if x24 = true then (some (x456000, x456001, x456002, x456003, false, 0, 2)) else ((binary_shape_sign.f x456000 x456001 x456002 x456003).bind fun t456 => ((binary_shape_sign.f x456000 x456001 x456002 x456003).bind fun t457 => (some (x456000, x456001, x456002, x456003, ((Go.bits .and .u64 x1 t456) != 0), Go.bits .andNot .u64 x1 t457, 0))))
def binary_take.f (k : Nat) (a0 : Int) (a1 : Int) : Option (Int × Int × Int × Int × Bool × Int × Int) := (binary_shapeOf.f a0).bind fun bt451 => (if (bt451.1 == 0 && (bt451.2.1 == 0 && (bt451.2.2.1 == 0 && (bt451.2.2.2 == 0)))) = true then (some (bt451.1, bt451.2.1, bt451.2.2.1, bt451.2.2.2, false, 0, 1)) else (if bt451.1 < 64 then (if 0 ≤ bt451.1 then (binary_take.j0 k a1 ((shr .u64 a1 bt451.1) != 0) bt451.1 bt451.2.1 bt451.2.2.1 bt451.2.2.2) else (none)) else (binary_take.j0 k a1 false bt451.1 bt451.2.1 bt451.2.2.1 bt451.2.2.2)))
theorem binary_take.mono_l : ∀ k, (∀ y0 y1 y2 y3 y4 y5, LeO (binary_take.j0 k y0 y1 y2 y3 y4 y5) (binary_take.j0 (k + 1) y0 y1 y2 y3 y4 y5))
 | 0 => fun _ _ _ _ _ _ r h => by simp [binary_take.j0] at h
 | k + 1 => by
  have ih0 := binary_take.mono_l k
  ·intro y0 y1 y2 y3 y4 y5
   unfold binary_take.j0
   repeat' first
   | (with_reducible exact ih0 _ _ _ _ _ _)
   | (with_reducible exact LeO.refl _)
   | (with_reducible exact LeO.none _)
   | (with_reducible refine LeO.ite ?_ ?_)
   | (with_reducible refine LeO.bind ?_ (fun _ => ?_))
   | exact ih0 _ _ _ _ _ _
   | exact LeO.none _
   | refine LeO.ite ?_ ?_
   | refine LeO.bind ?_ (fun _ => ?_)
theorem binary_take.mono : ∀ a0 a1 k, LeO (binary_take.f k a0 a1) (binary_take.f (k + 1) a0 a1) := by
 intro a0 a1 k
 have ih0 := binary_take.mono_l k
 unfold binary_take.f
 repeat' first
   | (with_reducible exact ih0 _ _ _ _ _ _)
   | (with_reducible exact LeO.refl _)
   | (with_reducible exact LeO.none _)
   | (with_reducible refine LeO.ite ?_ ?_)
   | (with_reducible refine LeO.bind ?_ (fun _ => ?_))
   | exact ih0 _ _ _ _ _ _
   | exact LeO.none _
   | refine LeO.ite ?_ ?_
   | refine LeO.bind ?_ (fun _ => ?_)
theorem binary_take.jc : ∀ k : Nat, (∀ (x1 : Int) (x24 : Bool) (x456000 : Int) (x456001 : Int) (x456002 : Int) (x456003 : Int) (r : Int × Int × Int × Int × Bool × Int × Int), binary_take.j0 k x1 x24 x456000 x456001 x456002 x456003 = some r → Fin Tryz.prog Gw 104 (nav (bodyOf Tryz.f104) [1, 1, 1, 0, 1] []) ⟨mkT 36 [(1, .s (.i .u64 x1)), (4, .s (.lo 0 0)), (8, .s (.lo 1 0)), (24, .s (.b x24))], [some (99, [.i .i64 0, .i .i64 0, .i .i64 0, .i .u64 0]), some (99, [.i .i64 x456000, .i .i64 x456001, .i .i64 x456002, .i .u64 x456003])]⟩ (· = .tu [.ag [.i .i64 r.1, .i .i64 r.2.1, .i .i64 r.2.2.1, .i .u64 r.2.2.2.1], .s (.b r.2.2.2.2.1), .s (.i .u64 r.2.2.2.2.2.1), .s (.i .i64 r.2.2.2.2.2.2)]))
 | 0 => (fun _ _ _ _ _ _ _ h => nn h)
 | k + 1 => by
  have ih := binary_take.jc k
  ·intro x1 x24 x456000 x456001 x456002 x456003 r h
   rw [binary_take.j0] at h
   rcases ite_e h with ⟨c1, h⟩ | ⟨c1, h⟩
   ·have h := si h; subst h
    exact jth Tryz.func104 [.br true] (fun e => ai c1 e) (by kernel_rfl)
   ·obtain ⟨t456, A2, h⟩ := bnd h
    obtain ⟨t457, A3, h⟩ := bnd h
    have h := si h; subst h
    exact jth Tryz.func104 [.br false, .r (.s (.i .u64 t456)), .r (.s (.i .u64 t457))] (fun e => ai (z0 c1) (ai (binary_shape_sign.c A2) (ai (binary_shape_sign.c A3) e))) (by kernel_rfl)
theorem binary_take.c {k : Nat} {a0 : Int} {a1 : Int} {r : Int × Int × Int × Int × Bool × Int × Int} (h : binary_take.f k a0 a1 = some r) : Con Tryz.prog Gw 104 [.s (.i .i64 a0), .s (.i .u64 a1)] (· = .tu [.ag [.i .i64 r.1, .i .i64 r.2.1, .i .i64 r.2.2.1, .i .u64 r.2.2.2.1], .s (.b r.2.2.2.2.1), .s (.i .u64 r.2.2.2.2.2.1), .s (.i .i64 r.2.2.2.2.2.2)]) := by
 unfold binary_take.f at h
 obtain ⟨bt451, A1, h⟩ := bnd h
 rcases ite_e h with ⟨c2, h⟩ | ⟨c2, h⟩
 ·have h := si h; subst h
  exact pth Tryz.func104 [.r (.ag [.i .i64 bt451.1, .i .i64 bt451.2.1, .i .i64 bt451.2.2.1, .i .u64 bt451.2.2.2]), .br true] (fun e => ai (binary_shapeOf.c A1) (ai c2 e)) (by kernel_rfl)
 ·rcases ite_e h with ⟨c3, h⟩ | ⟨c3, h⟩
  ·rcases ite_e h with ⟨c4, h⟩ | ⟨c4, h⟩
   ·exact pth Tryz.func104 [.r (.ag [.i .i64 bt451.1, .i .i64 bt451.2.1, .i .i64 bt451.2.2.1, .i .u64 bt451.2.2.2]), .br false, .br true, .br true, .br true, .br true, .br true, .br true, .cut 0 [1, 4, 8, 24] [0, 1] []] (fun _ => ai (binary_shapeOf.c A1) (ai (z0 c2) (ai (d1 c3) (ai (d1 c3) (ai (d1 c3) (ai (d1 c3) (ai c4 (ai (d1 c3) (ai (d1 c3) (binary_take.jc k _ _ _ _ _ _ _ h)))))))))) (by kernel_rfl)
   ·cases h
  ·exact pth Tryz.func104 [.r (.ag [.i .i64 bt451.1, .i .i64 bt451.2.1, .i .i64 bt451.2.2.1, .i .u64 bt451.2.2.2]), .br false, .br false, .br false, .br false, .br false, .br false, .br false, .cut 0 [1, 4, 8, 24] [0, 1] []] (fun _ => ai (binary_shapeOf.c A1) (ai (z0 c2) (ai (d0 c3) (ai (d0 c3) (ai (d0 c3) (ai (d0 c3) (ai (d0 c3) (ai (d0 c3) (binary_take.jc k _ _ _ _ _ _ _ h))))))))) (by kernel_rfl)
def binary_finite.j0 : Nat → Bool → Int → Int → Bool → Int → Int → Int → Int → Option (Int × Int × Int × Int × Bool × Int × Int)
 | 0, _, _, _, _, _, _, _, _ => none
 | k + 1, x9, x10, x11, x27, x467000, x467001, x467002, x467003 => if x27 = true then (some (x467000, x467001, x467002, x467003, false, 0, 6)) else (some (x467000, x467001, x467002, x467003, x9, x10, x11))
def binary_finite.f (k : Nat) (a0 : Int) (a1 : Int) : Option (Int × Int × Int × Int × Bool × Int × Int) := (binary_take.f k a0 a1).bind fun bt459 => (if bt459.2.2.2.2.2.2 = 0 then ((binary_shape_inf.f bt459.1 bt459.2.1 bt459.2.2.1 bt459.2.2.2.1).bind fun t467 => (binary_finite.j0 k bt459.2.2.2.2.1 bt459.2.2.2.2.2.1 bt459.2.2.2.2.2.2 (decide (bt459.2.2.2.2.2.1 ≥ t467)) bt459.1 bt459.2.1 bt459.2.2.1 bt459.2.2.2.1)) else (binary_finite.j0 k bt459.2.2.2.2.1 bt459.2.2.2.2.2.1 bt459.2.2.2.2.2.2 false bt459.1 bt459.2.1 bt459.2.2.1 bt459.2.2.2.1))
theorem binary_finite.mono_l : ∀ k, (∀ y0 y1 y2 y3 y4 y5 y6 y7, LeO (binary_finite.j0 k y0 y1 y2 y3 y4 y5 y6 y7) (binary_finite.j0 (k + 1) y0 y1 y2 y3 y4 y5 y6 y7))
 | 0 => fun _ _ _ _ _ _ _ _ r h => by simp [binary_finite.j0] at h
 | k + 1 => by
  have ih0 := binary_finite.mono_l k
  ·intro y0 y1 y2 y3 y4 y5 y6 y7
   unfold binary_finite.j0
   repeat' first
   | (with_reducible exact ih0 _ _ _ _ _ _ _ _)
   | (with_reducible exact binary_take.mono _ _ _)
   | (with_reducible exact LeO.refl _)
   | (with_reducible exact LeO.none _)
   | (with_reducible refine LeO.ite ?_ ?_)
   | (with_reducible refine LeO.bind ?_ (fun _ => ?_))
   | exact ih0 _ _ _ _ _ _ _ _
   | exact binary_take.mono _ _ _
   | exact LeO.none _
   | refine LeO.ite ?_ ?_
   | refine LeO.bind ?_ (fun _ => ?_)
theorem binary_finite.mono : ∀ a0 a1 k, LeO (binary_finite.f k a0 a1) (binary_finite.f (k + 1) a0 a1) := by
 intro a0 a1 k
 have ih0 := binary_finite.mono_l k
 unfold binary_finite.f
 repeat' first
   | (with_reducible exact ih0 _ _ _ _ _ _ _ _)
   | (with_reducible exact binary_take.mono _ _ _)
   | (with_reducible exact LeO.refl _)
   | (with_reducible exact LeO.none _)
   | (with_reducible refine LeO.ite ?_ ?_)
   | (with_reducible refine LeO.bind ?_ (fun _ => ?_))
   | exact ih0 _ _ _ _ _ _ _ _
   | exact binary_take.mono _ _ _
   | exact LeO.none _
   | refine LeO.ite ?_ ?_
   | refine LeO.bind ?_ (fun _ => ?_)
theorem binary_finite.jc : ∀ k : Nat, (∀ (x9 : Bool) (x10 : Int) (x11 : Int) (x27 : Bool) (x467000 : Int) (x467001 : Int) (x467002 : Int) (x467003 : Int) (r : Int × Int × Int × Int × Bool × Int × Int), binary_finite.j0 k x9 x10 x11 x27 x467000 x467001 x467002 x467003 = some r → Fin Tryz.prog Gw 79 (nav (bodyOf Tryz.f79) [1, 1, 0, 1] []) ⟨mkT 33 [(4, .s (.lo 0 0)), (8, .s (.lo 1 0)), (9, .s (.b x9)), (10, .s (.i .u64 x10)), (11, .s (.i .i64 x11)), (27, .s (.b x27))], [some (99, [.i .i64 0, .i .i64 0, .i .i64 0, .i .u64 0]), some (99, [.i .i64 x467000, .i .i64 x467001, .i .i64 x467002, .i .u64 x467003])]⟩ (· = .tu [.ag [.i .i64 r.1, .i .i64 r.2.1, .i .i64 r.2.2.1, .i .u64 r.2.2.2.1], .s (.b r.2.2.2.2.1), .s (.i .u64 r.2.2.2.2.2.1), .s (.i .i64 r.2.2.2.2.2.2)]))
 | 0 => (fun _ _ _ _ _ _ _ _ _ h => nn h)
 | k + 1 => by
  have ih := binary_finite.jc k
  ·intro x9 x10 x11 x27 x467000 x467001 x467002 x467003 r h
   rw [binary_finite.j0] at h
   rcases ite_e h with ⟨c1, h⟩ | ⟨c1, h⟩
   ·have h := si h; subst h
    exact jth Tryz.func79 [.br true] (fun e => ai c1 e) (by kernel_rfl)
   ·have h := si h; subst h
    exact jth Tryz.func79 [.br false] (fun e => ai (z0 c1) e) (by kernel_rfl)
theorem binary_finite.c {k : Nat} {a0 : Int} {a1 : Int} {r : Int × Int × Int × Int × Bool × Int × Int} (h : binary_finite.f k a0 a1 = some r) : Con Tryz.prog Gw 79 [.s (.i .i64 a0), .s (.i .u64 a1)] (· = .tu [.ag [.i .i64 r.1, .i .i64 r.2.1, .i .i64 r.2.2.1, .i .u64 r.2.2.2.1], .s (.b r.2.2.2.2.1), .s (.i .u64 r.2.2.2.2.2.1), .s (.i .i64 r.2.2.2.2.2.2)]) := by
 unfold binary_finite.f at h
 obtain ⟨bt459, A1, h⟩ := bnd h
 rcases ite_e h with ⟨c2, h⟩ | ⟨c2, h⟩
 ·obtain ⟨t467, A3, h⟩ := bnd h
  exact pth Tryz.func79 [.r (.tu [.ag [.i .i64 bt459.1, .i .i64 bt459.2.1, .i .i64 bt459.2.2.1, .i .u64 bt459.2.2.2.1], .s (.b bt459.2.2.2.2.1), .s (.i .u64 bt459.2.2.2.2.2.1), .s (.i .i64 bt459.2.2.2.2.2.2)]), .br true, .br true, .br true, .r (.s (.i .u64 t467)), .br true, .br true, .cut 0 [4, 8, 9, 10, 11, 27] [0, 1] []] (fun _ => ai (binary_take.c A1) (ai (q1 c2) (ai (q1 c2) (ai (q1 c2) (ai (binary_shape_inf.c A3) (ai (q1 c2) (ai (q1 c2) (binary_finite.jc k _ _ _ _ _ _ _ _ _ h)))))))) (by kernel_rfl)
 ·exact pth Tryz.func79 [.r (.tu [.ag [.i .i64 bt459.1, .i .i64 bt459.2.1, .i .i64 bt459.2.2.1, .i .u64 bt459.2.2.2.1], .s (.b bt459.2.2.2.2.1), .s (.i .u64 bt459.2.2.2.2.2.1), .s (.i .i64 bt459.2.2.2.2.2.2)]), .br false, .br false, .br false, .br false, .br false, .cut 0 [4, 8, 9, 10, 11, 27] [0, 1] []] (fun _ => ai (binary_take.c A1) (ai (q0 c2) (ai (q0 c2) (ai (q0 c2) (ai (q0 c2) (ai (q0 c2) (binary_finite.jc k _ _ _ _ _ _ _ _ _ h))))))) (by kernel_rfl)
def binary_shape_parts.f (a0_0 : Int) (a0_1 : Int) (a0_2 : Int) (a0_3 : Int) (a1 : Int) : Option (Int × Int) := (binary_shape_hidden.f a0_0 a0_1 a0_2 a0_3).bind fun t469 => (if t469 = 0 then (none) else ((binary_shape_hidden.f a0_0 a0_1 a0_2 a0_3).bind fun t470 => (if t470 = 0 then (none) else (if (IntKind.u64.wrap (Int.tdiv a1 t469)) = 0 then (some (Int.tmod a1 t470, a0_2)) else ((binary_shape_hidden.f a0_0 a0_1 a0_2 a0_3).bind fun t471 => (some (IntKind.u64.wrap (t471 + (Int.tmod a1 t470)), wrap64 ((wrap64 (a0_2 + (wrap64 (IntKind.u64.wrap (Int.tdiv a1 t469))))) - 1))))))))
theorem binary_shape_parts.c {a0_0 : Int} {a0_1 : Int} {a0_2 : Int} {a0_3 : Int} {a1 : Int} {r : Int × Int} (h : binary_shape_parts.f a0_0 a0_1 a0_2 a0_3 a1 = some r) : Con Tryz.prog Gw 80 [.ag [.i .i64 a0_0, .i .i64 a0_1, .i .i64 a0_2, .i .u64 a0_3], .s (.i .u64 a1)] (· = .tu [.s (.i .u64 r.1), .s (.i .i64 r.2)]) := by
 unfold binary_shape_parts.f at h
 obtain ⟨t469, A1, h⟩ := bnd h
 rcases ite_e h with ⟨c2, h⟩ | ⟨c2, h⟩
 ·cases h
 ·obtain ⟨t470, A3, h⟩ := bnd h
  rcases ite_e h with ⟨c4, h⟩ | ⟨c4, h⟩
  ·cases h
  ·rcases ite_e h with ⟨c5, h⟩ | ⟨c5, h⟩
   ·have h := si h; subst h
    exact pth Tryz.func80 [.r (.s (.i .u64 t469)), .r (.s (.i .u64 t470)), .br true] (fun e => ai (binary_shape_hidden.c A1) (ai c2 (ai (binary_shape_hidden.c A3) (ai c4 (ai (q1 c5) e))))) (by kernel_rfl)
   ·obtain ⟨t471, A6, h⟩ := bnd h
    have h := si h; subst h
    exact pth Tryz.func80 [.r (.s (.i .u64 t469)), .r (.s (.i .u64 t470)), .br false, .r (.s (.i .u64 t471))] (fun e => ai (binary_shape_hidden.c A1) (ai c2 (ai (binary_shape_hidden.c A3) (ai c4 (ai (q0 c5) (ai (binary_shape_hidden.c A6) e)))))) (by kernel_rfl)
def dyadic_Make.j0 : Nat → Int → Int → Bool → Bool → List Int → Option (Bool × List Int × Int × Int)
 | 0, _, _, _, _, _ => none
 | k + 1, x1, x6, x38, x473000, x473001 => if x38 = true then (some (false, ([] : List Int), 0, 5)) else ((nat_Shr.f x473001 x6).bind fun bt476 => (some (x473000, bt476.1, wrap64 (x1 + x6), 0)))
def dyadic_Make.f (k : Nat) (a0_0 : Bool) (l0_1 : List Int) (a1 : Int) : Option (Bool × List Int × Int × Int) := (num_Form.f a0_0 l0_1).bind fun t474 => (if t474 = true then (if (l0_1.length : Int) = 0 then (some (false, ([] : List Int), 0, 0)) else ((nat_Trail.f l0_1).bind fun t475 => (if a1 > 1048576 then (dyadic_Make.j0 k a1 t475 true a0_0 l0_1) else (if a1 < (-1572864) then (dyadic_Make.j0 k a1 t475 true a0_0 l0_1) else (if (wrap64 (a1 + t475)) < (-1048576) then (dyadic_Make.j0 k a1 t475 true a0_0 l0_1) else (dyadic_Make.j0 k a1 t475 (decide ((wrap64 (a1 + t475)) > 1048576)) a0_0 l0_1)))))) else (some (false, ([] : List Int), 0, 2)))
theorem dyadic_Make.mono_l : ∀ k, (∀ y0 y1 y2 y3 y4, LeO (dyadic_Make.j0 k y0 y1 y2 y3 y4) (dyadic_Make.j0 (k + 1) y0 y1 y2 y3 y4))
 | 0 => fun _ _ _ _ _ r h => by simp [dyadic_Make.j0] at h
 | k + 1 => by
  have ih0 := dyadic_Make.mono_l k
  ·intro y0 y1 y2 y3 y4
   unfold dyadic_Make.j0
   repeat' first
   | (with_reducible exact ih0 _ _ _ _ _)
   | (with_reducible exact LeO.refl _)
   | (with_reducible exact LeO.none _)
   | (with_reducible refine LeO.ite ?_ ?_)
   | (with_reducible refine LeO.bind ?_ (fun _ => ?_))
   | exact ih0 _ _ _ _ _
   | exact LeO.none _
   | refine LeO.ite ?_ ?_
   | refine LeO.bind ?_ (fun _ => ?_)
theorem dyadic_Make.mono : ∀ a0 a1 a2 k, LeO (dyadic_Make.f k a0 a1 a2) (dyadic_Make.f (k + 1) a0 a1 a2) := by
 intro a0 a1 a2 k
 have ih0 := dyadic_Make.mono_l k
 unfold dyadic_Make.f
 repeat' first
   | (with_reducible exact ih0 _ _ _ _ _)
   | (with_reducible exact LeO.refl _)
   | (with_reducible exact LeO.none _)
   | (with_reducible refine LeO.ite ?_ ?_)
   | (with_reducible refine LeO.bind ?_ (fun _ => ?_))
   | exact ih0 _ _ _ _ _
   | exact LeO.none _
   | refine LeO.ite ?_ ?_
   | refine LeO.bind ?_ (fun _ => ?_)
theorem dyadic_Make.jc : ∀ k : Nat, (∀ (x1 : Int) (x6 : Int) (x38 : Bool) (x473000 : Bool) (x473001 : List Int) (r : Bool × List Int × Int × Int), dyadic_Make.j0 k x1 x6 x38 x473000 x473001 = some r → Fin Tryz.prog Gw 55 (nav (bodyOf Tryz.f55) [1, 1, 1, 1, 0, 1] []) ⟨mkT 55 [(1, .s (.i .i64 x1)), (2, .s (.lo 0 0)), (4, .s (.lo 1 0)), (6, .s (.i .i64 x6)), (38, .s (.b x38))], [some (48, [.b x473000, .sl .u64 x473001]), some (50, [.b false, .sl .u64 ([]), .i .i64 0])]⟩ (· = .tu [.ag [.b r.1, .sl .u64 r.2.1, .i .i64 r.2.2.1], .s (.i .i64 r.2.2.2)]))
 | 0 => (fun _ _ _ _ _ _ h => nn h)
 | k + 1 => by
  have ih := dyadic_Make.jc k
  ·intro x1 x6 x38 x473000 x473001 r h
   rw [dyadic_Make.j0] at h
   rcases ite_e h with ⟨c1, h⟩ | ⟨c1, h⟩
   ·have h := si h; subst h
    exact jth Tryz.func55 [.br true] (fun e => ai c1 e) (by kernel_rfl)
   ·obtain ⟨bt476, A2, h⟩ := bnd h
    have h := si h; subst h
    exact jth Tryz.func55 [.br false, .r (.tu [.s (.sl .u64 bt476.1), .s (.i .i64 bt476.2)])] (fun e => ai (z0 c1) (ai (nat_Shr.c A2) e)) (by kernel_rfl)
theorem dyadic_Make.c {k : Nat} {a0_0 : Bool} {l0_1 : List Int} {a1 : Int} {r : Bool × List Int × Int × Int} (h : dyadic_Make.f k a0_0 l0_1 a1 = some r) : Con Tryz.prog Gw 55 [.ag [.b a0_0, .sl .u64 l0_1], .s (.i .i64 a1)] (· = .tu [.ag [.b r.1, .sl .u64 r.2.1, .i .i64 r.2.2.1], .s (.i .i64 r.2.2.2)]) := by
 unfold dyadic_Make.f at h
 obtain ⟨t474, A1, h⟩ := bnd h
 rcases ite_e h with ⟨c2, h⟩ | ⟨c2, h⟩
 ·rcases ite_e h with ⟨c3, h⟩ | ⟨c3, h⟩
  ·have h := si h; subst h
   exact pth Tryz.func55 [.r (.s (.b t474)), .br false, .br true] (fun e => ai (num_Form.c A1) (ai (nt1 c2) (ai (q1 c3) e))) (by kernel_rfl)
  ·obtain ⟨t475, A4, h⟩ := bnd h
   rcases ite_e h with ⟨c5, h⟩ | ⟨c5, h⟩
   ·exact pth Tryz.func55 [.r (.s (.b t474)), .br false, .br false, .r (.s (.i .i64 t475)), .br true, .br true, .br true, .br true, .br true, .br true, .br true, .br true, .br true, .br true, .br true, .br true, .br true, .cut 0 [1, 2, 4, 6, 38] [0, 1] []] (fun _ => ai (num_Form.c A1) (ai (nt1 c2) (ai (q0 c3) (ai (nat_Trail.c A4) (ai (d1 c5) (ai (d1 c5) (ai (d1 c5) (ai tt (ai tt (ai tt (ai tt (ai tt (ai tt (ai tt (ai tt (ai tt (ai tt (dyadic_Make.jc k _ _ _ _ _ _ h)))))))))))))))))) (by kernel_rfl)
   ·rcases ite_e h with ⟨c6, h⟩ | ⟨c6, h⟩
    ·exact pth Tryz.func55 [.r (.s (.b t474)), .br false, .br false, .r (.s (.i .i64 t475)), .br false, .br false, .br false, .br true, .br true, .br true, .br true, .br true, .br true, .br true, .br true, .br true, .br true, .cut 0 [1, 2, 4, 6, 38] [0, 1] []] (fun _ => ai (num_Form.c A1) (ai (nt1 c2) (ai (q0 c3) (ai (nat_Trail.c A4) (ai (d0 c5) (ai (d0 c5) (ai (d0 c5) (ai (d1 c6) (ai (d1 c6) (ai (d1 c6) (ai (d1 c6) (ai (d1 c6) (ai tt (ai tt (ai tt (ai tt (ai tt (dyadic_Make.jc k _ _ _ _ _ _ h)))))))))))))))))) (by kernel_rfl)
    ·rcases ite_e h with ⟨c7, h⟩ | ⟨c7, h⟩
     ·exact pth Tryz.func55 [.r (.s (.b t474)), .br false, .br false, .r (.s (.i .i64 t475)), .br false, .br false, .br false, .br false, .br false, .br false, .br false, .br false, .br true, .br true, .br true, .br true, .br true, .cut 0 [1, 2, 4, 6, 38] [0, 1] []] (fun _ => ai (num_Form.c A1) (ai (nt1 c2) (ai (q0 c3) (ai (nat_Trail.c A4) (ai (d0 c5) (ai (d0 c5) (ai (d0 c5) (ai (d0 c6) (ai (d0 c6) (ai (d0 c6) (ai (d0 c6) (ai (d0 c6) (ai (d1 c7) (ai (d1 c7) (ai (d1 c7) (ai (d1 c7) (ai (d1 c7) (dyadic_Make.jc k _ _ _ _ _ _ h)))))))))))))))))) (by kernel_rfl)
     ·exact pth Tryz.func55 [.r (.s (.b t474)), .br false, .br false, .r (.s (.i .i64 t475)), .br false, .br false, .br false, .br false, .br false, .br false, .br false, .br false, .br false, .br false, .br false, .br false, .br false, .cut 0 [1, 2, 4, 6, 38] [0, 1] []] (fun _ => ai (num_Form.c A1) (ai (nt1 c2) (ai (q0 c3) (ai (nat_Trail.c A4) (ai (d0 c5) (ai (d0 c5) (ai (d0 c5) (ai (d0 c6) (ai (d0 c6) (ai (d0 c6) (ai (d0 c6) (ai (d0 c6) (ai (d0 c7) (ai (d0 c7) (ai (d0 c7) (ai (d0 c7) (ai (d0 c7) (dyadic_Make.jc k _ _ _ _ _ _ h)))))))))))))))))) (by kernel_rfl)
 ·have h := si h; subst h
  exact pth Tryz.func55 [.r (.s (.b t474)), .br true] (fun e => ai (num_Form.c A1) (ai (nt0 (z0 c2)) e)) (by kernel_rfl)
def binary_number.f (k : Nat) (a0 : Bool) (a1 : Int) (a2 : Int) : Option (Bool × List Int × Int × Int) := if a0 = true then ((nat_Word.f a1).bind fun t481 => ((dyadic_Make.f k (a1 != 0) t481 a2).bind fun bt484 => (some (bt484.1, bt484.2.1, bt484.2.2.1, bt484.2.2.2)))) else ((nat_Word.f a1).bind fun t490 => ((dyadic_Make.f k false t490 a2).bind fun bt493 => (some (bt493.1, bt493.2.1, bt493.2.2.1, bt493.2.2.2))))
theorem binary_number.mono : ∀ a0 a1 a2 k, LeO (binary_number.f k a0 a1 a2) (binary_number.f (k + 1) a0 a1 a2) := by
 intro a0 a1 a2 k
 unfold binary_number.f
 repeat' first
   | (with_reducible exact dyadic_Make.mono _ _ _ _)
   | (with_reducible exact LeO.refl _)
   | (with_reducible exact LeO.none _)
   | (with_reducible refine LeO.ite ?_ ?_)
   | (with_reducible refine LeO.bind ?_ (fun _ => ?_))
   | exact dyadic_Make.mono _ _ _ _
   | exact LeO.none _
   | refine LeO.ite ?_ ?_
   | refine LeO.bind ?_ (fun _ => ?_)
theorem binary_number.c {k : Nat} {a0 : Bool} {a1 : Int} {a2 : Int} {r : Bool × List Int × Int × Int} (h : binary_number.f k a0 a1 a2 = some r) : Con Tryz.prog Gw 81 [.s (.b a0), .s (.i .u64 a1), .s (.i .i64 a2)] (· = .tu [.ag [.b r.1, .sl .u64 r.2.1, .i .i64 r.2.2.1], .s (.i .i64 r.2.2.2)]) := by
 unfold binary_number.f at h
 rcases ite_e h with ⟨c1, h⟩ | ⟨c1, h⟩
 ·obtain ⟨t481, A2, h⟩ := bnd h
  obtain ⟨bt484, A3, h⟩ := bnd h
  have h := si h; subst h
  exact pth Tryz.func81 [.br true, .br true, .br true, .r (.s (.sl .u64 t481)), .r (.tu [.ag [.b bt484.1, .sl .u64 bt484.2.1, .i .i64 bt484.2.2.1], .s (.i .i64 bt484.2.2.2)])] (fun e => ai c1 (ai c1 (ai c1 (ai (nat_Word.c A2) (ai (dyadic_Make.c A3) e))))) (by kernel_rfl)
 ·obtain ⟨t490, A4, h⟩ := bnd h
  obtain ⟨bt493, A5, h⟩ := bnd h
  have h := si h; subst h
  exact pth Tryz.func81 [.br false, .br false, .br false, .r (.s (.sl .u64 t490)), .r (.tu [.ag [.b bt493.1, .sl .u64 bt493.2.1, .i .i64 bt493.2.2.1], .s (.i .i64 bt493.2.2.2)])] (fun e => ai (z0 c1) (ai (z0 c1) (ai (z0 c1) (ai (nat_Word.c A4) (ai (dyadic_Make.c A5) e))))) (by kernel_rfl)
end Go.Proofs.YtapikmfckpgjoaaGreatDoor.PLib
