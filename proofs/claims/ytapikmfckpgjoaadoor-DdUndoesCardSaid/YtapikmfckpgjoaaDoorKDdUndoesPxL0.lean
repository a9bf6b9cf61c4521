/- Functions of the program as plain Lean functions (definitions as the print's), and that the machine's calls do what they do (contracts 'X.c', by Px). Condition: math/bits' table is laid. -/
import Derived.Test.YtapikmfckpgjoaaDoorKDdUndoesPxBr
import Derived.Test.YtapikmfckpgjoaaDoorKDdUndoesGP
import Derived.Test.YtapikmfckpgjoaaDoorKDdUndoesGiven
set_option linter.unusedVariables false
namespace Go.Proofs.YtapikmfckpgjoaaDoor.PLib
open Go Go.RowKit Go.Proofs.YtapikmfckpgjoaaDoorW.PrintWords Go.Proofs.YtapikmfckpgjoaaDoorW.PrintMore Go.Proofs.YtapikmfckpgjoaaDoor.Given Go.Proofs.YtapikmfckpgjoaaDoor.Px
def gnomonref05_Nought.f (a0_0 : Bool) (l0_1 : List Int) (a0_2 : Int) : Option (Bool) := some ((l0_1.length : Int) == 0)
theorem gnomonref05_Nought.c {a0_0 : Bool} {l0_1 : List Int} {a0_2 : Int} {r : Bool} (h : gnomonref05_Nought.f a0_0 l0_1 a0_2 = some r) : Con Tryd.prog Gw 25 [.ag [.b a0_0, .sl .u64 l0_1, .i .i64 a0_2]] (· = .s (.b r)) := by
 unfold gnomonref05_Nought.f at h
 have h := si h; subst h
 exact pth Tryd.func25 [] (fun e => e) (by kernel_rfl)
def dyadic_nought.f (a0_0 : Bool) (l0_1 : List Int) (a0_2 : Int) : Option (Bool) := some ((l0_1.length : Int) == 0)
theorem dyadic_nought.c {a0_0 : Bool} {l0_1 : List Int} {a0_2 : Int} {r : Bool} (h : dyadic_nought.f a0_0 l0_1 a0_2 = some r) : Con Tryd.prog Gw 54 [.ag [.b a0_0, .sl .u64 l0_1, .i .i64 a0_2]] (· = .s (.b r)) := by
 unfold dyadic_nought.f at h
 have h := si h; subst h
 exact pth Tryd.func54 [] (fun e => e) (by kernel_rfl)
def nat_Form.f (l0 : List Int) : Option (Bool) := if (l0.length : Int) ≤ 8192 then (if (l0.length : Int) = 0 then (some true) else (if 0 ≤ (wrap64 ((l0.length : Int) - 1)) then (if (wrap64 ((l0.length : Int) - 1)) < (l0.length : Int) then (some ((rd l0 (wrap64 ((l0.length : Int) - 1))) != 0)) else (none)) else (none))) else (some false)
theorem nat_Form.c {l0 : List Int} {r : Bool} (h : nat_Form.f l0 = some r) : Con Tryd.prog Gw 106 [.s (.sl .u64 l0)] (· = .s (.b r)) := by
 unfold nat_Form.f at h
 rcases ite_e h with ⟨c1, h⟩ | ⟨c1, h⟩
 ·rcases ite_e h with ⟨c2, h⟩ | ⟨c2, h⟩
  ·have h := si h; subst h
   exact pth Tryd.func106 [.br true, .br true, .br true, .br true, .br true, .br true, .br true, .br true, .br true, .br true, .br true, .br true, .br true, .br true] (fun e => ai (d1 c1) (ai (d1 c1) (ai (d1 c1) (ai (d1 c1) (ai (q1 c2) (ai (q1 c2) (ai (q1 c2) (ai (q1 c2) (ai (q1 c2) (ai (q1 c2) (ai (q1 c2) (ai (d1 c1) (ai (q1 c2) (ai (d1 c1) e)))))))))))))) (by kernel_rfl)
  ·rcases ite_e h with ⟨c3, h⟩ | ⟨c3, h⟩
   ·rcases ite_e h with ⟨c4, h⟩ | ⟨c4, h⟩
    ·have h := si h; subst h
     exact pth Tryd.func106 [.br true, .br true, .br true, .br true, .br false, .br false, .br false, .br false, .br false, .br false, .br false, .br true, .br false, .br true] (fun e => ai (d1 c1) (ai (d1 c1) (ai (d1 c1) (ai (d1 c1) (ai (q0 c2) (ai (q0 c2) (ai (q0 c2) (ai (q0 c2) (ai (q0 c2) (ai c3 (ai c4 (ai (q0 c2) (ai (q0 c2) (ai (d1 c1) (ai (q0 c2) (ai (d1 c1) e)))))))))))))))) (by kernel_rfl)
    ·cases h
   ·cases h
 ·have h := si h; subst h
  exact pth Tryd.func106 [.br false, .br false, .br false, .br false, .br false, .br false] (fun e => ai (d0 c1) (ai (d0 c1) (ai (d0 c1) (ai (d0 c1) (ai (d0 c1) (ai (d0 c1) e)))))) (by kernel_rfl)
def num_Form.f (a0_0 : Bool) (l0_1 : List Int) : Option (Bool) := (nat_Form.f l0_1).bind fun t284 => (if t284 = true then (if a0_0 = true then (some (!((l0_1.length : Int) == 0))) else (some (!false))) else (some false))
theorem num_Form.c {a0_0 : Bool} {l0_1 : List Int} {r : Bool} (h : num_Form.f a0_0 l0_1 = some r) : Con Tryd.prog Gw 80 [.ag [.b a0_0, .sl .u64 l0_1]] (· = .s (.b r)) := by
 unfold num_Form.f at h
 obtain ⟨t284, A1, h⟩ := bnd h
 rcases ite_e h with ⟨c2, h⟩ | ⟨c2, h⟩
 ·rcases ite_e h with ⟨c3, h⟩ | ⟨c3, h⟩
  ·have h := si h; subst h
   exact pth Tryd.func80 [.r (.s (.b t284)), .br true, .br true, .br true, .br true, .br true, .br true, .br true, .br true, .br true, .br true, .br true] (fun e => ai (nat_Form.c A1) (ai c2 (ai c2 (ai c2 (ai c3 (ai c3 (ai c3 (ai c3 (ai c2 (ai c3 (ai c2 (ai c2 e)))))))))))) (by kernel_rfl)
  ·have h := si h; subst h
   exact pth Tryd.func80 [.r (.s (.b t284)), .br true, .br true, .br true, .br false, .br false, .br false, .br false, .br true, .br false, .br true, .br true] (fun e => ai (nat_Form.c A1) (ai c2 (ai c2 (ai c2 (ai (z0 c3) (ai (z0 c3) (ai (z0 c3) (ai (z0 c3) (ai c2 (ai (z0 c3) (ai c2 (ai c2 e)))))))))))) (by kernel_rfl)
 ·have h := si h; subst h
  exact pth Tryd.func80 [.r (.s (.b t284)), .br false, .br false, .br false, .br false, .br false, .br false] (fun e => ai (nat_Form.c A1) (ai (z0 c2) (ai (z0 c2) (ai (z0 c2) (ai (z0 c2) (ai (z0 c2) (ai (z0 c2) e))))))) (by kernel_rfl)
def dyadic_Form.j0 : Nat → Bool → Bool → List Int → Int → Option (Bool)
 | 0, _, _, _, _ => none
 | k + 1, x16, x286000, x286001, x286002 => if x16 = true then (some false) else ((dyadic_nought.f x286000 x286001 x286002).bind fun t287 => (if t287 = true then (some (x286002 == 0)) else (if 0 < (x286001.length : Int) then (some ((Go.bits .and .u64 (rd x286001 0) 1) == 1)) else (none))))
def dyadic_Form.f (k : Nat) (a0_0 : Bool) (l0_1 : List Int) (a0_2 : Int) : Option (Bool) := (num_Form.f a0_0 l0_1).bind fun t286 => (if t286 = true then (if a0_2 < (-1048576) then (dyadic_Form.j0 k true a0_0 l0_1 a0_2) else (dyadic_Form.j0 k (decide (a0_2 > 1048576)) a0_0 l0_1 a0_2)) else (dyadic_Form.j0 k true a0_0 l0_1 a0_2))
theorem dyadic_Form.mono_l : ∀ k, (∀ y0 y1 y2 y3, LeO (dyadic_Form.j0 k y0 y1 y2 y3) (dyadic_Form.j0 (k + 1) y0 y1 y2 y3))
 | 0 => fun _ _ _ _ r h => by simp [dyadic_Form.j0] at h
 | k + 1 => by
  have ih0 := dyadic_Form.mono_l k
  ·intro y0 y1 y2 y3
   unfold dyadic_Form.j0
   repeat' first
   | (with_reducible exact ih0 _ _ _ _)
   | (with_reducible exact LeO.refl _)
   | (with_reducible exact LeO.none _)
   | (with_reducible refine LeO.ite ?_ ?_)
   | (with_reducible refine LeO.bind ?_ (fun _ => ?_))
   | exact ih0 _ _ _ _
   | exact LeO.none _
   | refine LeO.ite ?_ ?_
   | refine LeO.bind ?_ (fun _ => ?_)
theorem dyadic_Form.mono : ∀ a0 a1 a2 k, LeO (dyadic_Form.f k a0 a1 a2) (dyadic_Form.f (k + 1) a0 a1 a2) := by
 intro a0 a1 a2 k
 have ih0 := dyadic_Form.mono_l k
 unfold dyadic_Form.f
 repeat' first
   | (with_reducible exact ih0 _ _ _ _)
   | (with_reducible exact LeO.refl _)
   | (with_reducible exact LeO.none _)
   | (with_reducible refine LeO.ite ?_ ?_)
   | (with_reducible refine LeO.bind ?_ (fun _ => ?_))
   | exact ih0 _ _ _ _
   | exact LeO.none _
   | refine LeO.ite ?_ ?_
   | refine LeO.bind ?_ (fun _ => ?_)
theorem dyadic_Form.jc : ∀ k : Nat, (∀ (x16 : Bool) (x286000 : Bool) (x286001 : List Int) (x286002 : Int) (r : Bool), dyadic_Form.j0 k x16 x286000 x286001 x286002 = some r → Fin Tryd.prog Gw 52 (nav (bodyOf Tryd.f52) [1, 0, 1] []) ⟨mkT 29 [(1, .s (.lo 0 0)), (16, .s (.b x16))], [some (36, [.b x286000, .sl .u64 x286001, .i .i64 x286002])]⟩ (· = .s (.b r)))
 | 0 => (fun _ _ _ _ _ h => nn h)
 | k + 1 => by
  have ih := dyadic_Form.jc k
  ·intro x16 x286000 x286001 x286002 r h
   rw [dyadic_Form.j0] at h
   rcases ite_e h with ⟨c1, h⟩ | ⟨c1, h⟩
   ·have h := si h; subst h
    exact jth Tryd.func52 [.br true] (fun e => ai c1 e) (by kernel_rfl)
   ·obtain ⟨t287, A2, h⟩ := bnd h
    rcases ite_e h with ⟨c3, h⟩ | ⟨c3, h⟩
    ·have h := si h; subst h
     exact jth Tryd.func52 [.br false, .r (.s (.b t287)), .br true] (fun e => ai (z0 c1) (ai (dyadic_nought.c A2) (ai c3 e))) (by kernel_rfl)
    ·rcases ite_e h with ⟨c4, h⟩ | ⟨c4, h⟩
     ·have h := si h; subst h
      exact jth Tryd.func52 [.br false, .r (.s (.b t287)), .br false] (fun e => ai (z0 c1) (ai (dyadic_nought.c A2) (ai (z0 c3) (ai (by decide : (0 : Int) ≤ 0) (ai c4 e))))) (by kernel_rfl)
     ·cases h
theorem dyadic_Form.c {k : Nat} {a0_0 : Bool} {l0_1 : List Int} {a0_2 : Int} {r : Bool} (h : dyadic_Form.f k a0_0 l0_1 a0_2 = some r) : Con Tryd.prog Gw 52 [.ag [.b a0_0, .sl .u64 l0_1, .i .i64 a0_2]] (· = .s (.b r)) := by
 unfold dyadic_Form.f at h
 obtain ⟨t286, A1, h⟩ := bnd h
 rcases ite_e h with ⟨c2, h⟩ | ⟨c2, h⟩
 ·rcases ite_e h with ⟨c3, h⟩ | ⟨c3, h⟩
  ·exact pth Tryd.func52 [.r (.s (.b t286)), .br false, .br false, .br false, .br false, .br true, .br true, .br true, .br true, .cut 0 [1, 16] [0] []] (fun _ => ai (num_Form.c A1) (ai (nt1 c2) (ai (nt1 c2) (ai (nt1 c2) (ai (nt1 c2) (ai (d1 c3) (ai (d1 c3) (ai (d1 c3) (ai (d1 c3) (dyadic_Form.jc k _ _ _ _ _ h)))))))))) (by kernel_rfl)
  ·exact pth Tryd.func52 [.r (.s (.b t286)), .br false, .br false, .br false, .br false, .br false, .br false, .br false, .br false, .cut 0 [1, 16] [0] []] (fun _ => ai (num_Form.c A1) (ai (nt1 c2) (ai (nt1 c2) (ai (nt1 c2) (ai (nt1 c2) (ai (d0 c3) (ai (d0 c3) (ai (d0 c3) (ai (d0 c3) (dyadic_Form.jc k _ _ _ _ _ h)))))))))) (by kernel_rfl)
 ·exact pth Tryd.func52 [.r (.s (.b t286)), .br true, .br true, .br true, .br true, .br true, .br true, .br true, .br true, .cut 0 [1, 16] [0] []] (fun _ => ai (num_Form.c A1) (ai (nt0 (z0 c2)) (ai (nt0 (z0 c2)) (ai (nt0 (z0 c2)) (ai (nt0 (z0 c2)) (ai tt (ai tt (ai tt (ai tt (dyadic_Form.jc k _ _ _ _ _ h)))))))))) (by kernel_rfl)
def num_Sign.f (a0_0 : Bool) (l0_1 : List Int) : Option (Int) := (nat_Bits.f l0_1).bind fun t290 => (if t290 = 0 then (some 0) else (if a0_0 = true then (some (-1)) else (some 1)))
theorem num_Sign.c {a0_0 : Bool} {l0_1 : List Int} {r : Int} (h : num_Sign.f a0_0 l0_1 = some r) : Con Tryd.prog Gw 59 [.ag [.b a0_0, .sl .u64 l0_1]] (· = .s (.i .i64 r)) := by
 unfold num_Sign.f at h
 obtain ⟨t290, A1, h⟩ := bnd h
 rcases ite_e h with ⟨c2, h⟩ | ⟨c2, h⟩
 ·have h := si h; subst h
  exact pth Tryd.func59 [.r (.s (.i .i64 t290)), .br true] (fun e => ai (nat_Bits.c A1) (ai (q1 c2) e)) (by kernel_rfl)
 ·rcases ite_e h with ⟨c3, h⟩ | ⟨c3, h⟩
  ·have h := si h; subst h
   exact pth Tryd.func59 [.r (.s (.i .i64 t290)), .br false, .br true] (fun e => ai (nat_Bits.c A1) (ai (q0 c2) (ai c3 e))) (by kernel_rfl)
  ·have h := si h; subst h
   exact pth Tryd.func59 [.r (.s (.i .i64 t290)), .br false, .br false] (fun e => ai (nat_Bits.c A1) (ai (q0 c2) (ai (z0 c3) e))) (by kernel_rfl)
def dyadic_top.f (a0_0 : Bool) (l0_1 : List Int) (a0_2 : Int) : Option (Int) := (nat_Bits.f l0_1).bind fun t292 => (some (wrap64 ((wrap64 (a0_2 + t292)) - 1)))
theorem dyadic_top.c {a0_0 : Bool} {l0_1 : List Int} {a0_2 : Int} {r : Int} (h : dyadic_top.f a0_0 l0_1 a0_2 = some r) : Con Tryd.prog Gw 84 [.ag [.b a0_0, .sl .u64 l0_1, .i .i64 a0_2]] (· = .s (.i .i64 r)) := by
 unfold dyadic_top.f at h
 obtain ⟨t292, A1, h⟩ := bnd h
 have h := si h; subst h
 exact pth Tryd.func84 [.r (.s (.i .i64 t292))] (fun e => ai (nat_Bits.c A1) e) (by kernel_rfl)
def dyadic_size.f (a0_0 : Bool) (l0_1 : List Int) (a0_2 : Int) (a1_0 : Bool) (l1_1 : List Int) (a1_2 : Int) : Option (Int) := (dyadic_top.f a0_0 l0_1 a0_2).bind fun t295 => ((dyadic_top.f a1_0 l1_1 a1_2).bind fun t296 => (if t295 < t296 then (some (-1)) else (if t295 > t296 then (some 1) else ((nat_Shl.f l0_1 (wrap64 (a0_2 - (mn a0_2 a1_2)))).bind fun bt297 => ((nat_Shl.f l1_1 (wrap64 (a1_2 - (mn a0_2 a1_2)))).bind fun bt301 => ((nat_Cmp.f bt297.1 bt301.1).bind fun t305 => (some t305)))))))
theorem dyadic_size.c {a0_0 : Bool} {l0_1 : List Int} {a0_2 : Int} {a1_0 : Bool} {l1_1 : List Int} {a1_2 : Int} {r : Int} (h : dyadic_size.f a0_0 l0_1 a0_2 a1_0 l1_1 a1_2 = some r) : Con Tryd.prog Gw 60 [.ag [.b a0_0, .sl .u64 l0_1, .i .i64 a0_2], .ag [.b a1_0, .sl .u64 l1_1, .i .i64 a1_2]] (· = .s (.i .i64 r)) := by
 unfold dyadic_size.f at h
 obtain ⟨t295, A1, h⟩ := bnd h
 obtain ⟨t296, A2, h⟩ := bnd h
 rcases ite_e h with ⟨c3, h⟩ | ⟨c3, h⟩
 ·have h := si h; subst h
  exact pth Tryd.func60 [.r (.s (.i .i64 t295)), .r (.s (.i .i64 t296)), .br true] (fun e => ai (dyadic_top.c A1) (ai (dyadic_top.c A2) (ai (d1 c3) e))) (by kernel_rfl)
 ·rcases ite_e h with ⟨c4, h⟩ | ⟨c4, h⟩
  ·have h := si h; subst h
   exact pth Tryd.func60 [.r (.s (.i .i64 t295)), .r (.s (.i .i64 t296)), .br false, .br true] (fun e => ai (dyadic_top.c A1) (ai (dyadic_top.c A2) (ai (d0 c3) (ai (d1 c4) e)))) (by kernel_rfl)
  ·obtain ⟨bt297, A5, h⟩ := bnd h
   obtain ⟨bt301, A6, h⟩ := bnd h
   obtain ⟨t305, A7, h⟩ := bnd h
   have h := si h; subst h
   exact pth Tryd.func60 [.r (.s (.i .i64 t295)), .r (.s (.i .i64 t296)), .br false, .br false, .r (.tu [.s (.sl .u64 bt297.1), .s (.i .i64 bt297.2)]), .r (.tu [.s (.sl .u64 bt301.1), .s (.i .i64 bt301.2)]), .r (.s (.i .i64 t305))] (fun e => ai (dyadic_top.c A1) (ai (dyadic_top.c A2) (ai (d0 c3) (ai (d0 c4) (ai (nat_Shl.c A5) (ai (nat_Shl.c A6) (ai (nat_Cmp.c A7) e))))))) (by kernel_rfl)
def dyadic_Cmp.j0 : Nat → Bool → Bool → List Int → Int → Bool → List Int → Int → Option (Int × Int)
 | 0, _, _, _, _, _, _, _ => none
 | k + 1, x15, x307000, x307001, x307002, x308000, x308001, x308002 => if x15 = true then (some (0, 2)) else ((num_Sign.f x307000 x307001).bind fun t310 => ((num_Sign.f x308000 x308001).bind fun t311 => (if t310 < t311 then (some ((-1), 0)) else (if t310 > t311 then (some (1, 0)) else (if t310 = 0 then (some (0, 0)) else ((dyadic_size.f x307000 x307001 x307002 x308000 x308001 x308002).bind fun t312 => (some (wrap64 (t310 * t312), 0))))))))
def dyadic_Cmp.f (k : Nat) (a0_0 : Bool) (l0_1 : List Int) (a0_2 : Int) (a1_0 : Bool) (l1_1 : List Int) (a1_2 : Int) : Option (Int × Int) := (dyadic_Form.f k a0_0 l0_1 a0_2).bind fun t308 => (if t308 = true then ((dyadic_Form.f k a1_0 l1_1 a1_2).bind fun t309 => (dyadic_Cmp.j0 k (!t309) a0_0 l0_1 a0_2 a1_0 l1_1 a1_2)) else (dyadic_Cmp.j0 k true a0_0 l0_1 a0_2 a1_0 l1_1 a1_2))
theorem dyadic_Cmp.mono_l : ∀ k, (∀ y0 y1 y2 y3 y4 y5 y6, LeO (dyadic_Cmp.j0 k y0 y1 y2 y3 y4 y5 y6) (dyadic_Cmp.j0 (k + 1) y0 y1 y2 y3 y4 y5 y6))
 | 0 => fun _ _ _ _ _ _ _ r h => by simp [dyadic_Cmp.j0] at h
 | k + 1 => by
  have ih0 := dyadic_Cmp.mono_l k
  ·intro y0 y1 y2 y3 y4 y5 y6
   unfold dyadic_Cmp.j0
   repeat' first
   | (with_reducible exact ih0 _ _ _ _ _ _ _)
   | (with_reducible exact dyadic_Form.mono _ _ _ _)
   | (with_reducible exact LeO.refl _)
   | (with_reducible exact LeO.none _)
   | (with_reducible refine LeO.ite ?_ ?_)
   | (with_reducible refine LeO.bind ?_ (fun _ => ?_))
   | exact ih0 _ _ _ _ _ _ _
   | exact dyadic_Form.mono _ _ _ _
   | exact LeO.none _
   | refine LeO.ite ?_ ?_
   | refine LeO.bind ?_ (fun _ => ?_)
theorem dyadic_Cmp.mono : ∀ a0 a1 a2 a3 a4 a5 k, LeO (dyadic_Cmp.f k a0 a1 a2 a3 a4 a5) (dyadic_Cmp.f (k + 1) a0 a1 a2 a3 a4 a5) := by
 intro a0 a1 a2 a3 a4 a5 k
 have ih0 := dyadic_Cmp.mono_l k
 unfold dyadic_Cmp.f
 repeat' first
   | (with_reducible exact ih0 _ _ _ _ _ _ _)
   | (with_reducible exact dyadic_Form.mono _ _ _ _)
   | (with_reducible exact LeO.refl _)
   | (with_reducible exact LeO.none _)
   | (with_reducible refine LeO.ite ?_ ?_)
   | (with_reducible refine LeO.bind ?_ (fun _ => ?_))
   | exact ih0 _ _ _ _ _ _ _
   | exact dyadic_Form.mono _ _ _ _
   | exact LeO.none _
   | refine LeO.ite ?_ ?_
   | refine LeO.bind ?_ (fun _ => ?_)
theorem dyadic_Cmp.jc : ∀ k : Nat, (∀ (x15 : Bool) (x307000 : Bool) (x307001 : List Int) (x307002 : Int) (x308000 : Bool) (x308001 : List Int) (x308002 : Int) (r : Int × Int), dyadic_Cmp.j0 k x15 x307000 x307001 x307002 x308000 x308001 x308002 = some r → Fin Tryd.prog Gw 23 (nav (bodyOf Tryd.f23) [1, 0, 1] []) ⟨mkT 38 [(2, .s (.lo 0 0)), (3, .s (.lo 1 0)), (15, .s (.b x15))], [some (36, [.b x307000, .sl .u64 x307001, .i .i64 x307002]), some (36, [.b x308000, .sl .u64 x308001, .i .i64 x308002])]⟩ (· = .tu [.s (.i .i64 r.1), .s (.i .i64 r.2)]))
 | 0 => (fun _ _ _ _ _ _ _ _ h => nn h)
 | k + 1 => by
  have ih := dyadic_Cmp.jc k
  ·intro x15 x307000 x307001 x307002 x308000 x308001 x308002 r h
   rw [dyadic_Cmp.j0] at h
   rcases ite_e h with ⟨c1, h⟩ | ⟨c1, h⟩
   ·have h := si h; subst h
    exact jth Tryd.func23 [.br true] (fun e => ai c1 e) (by kernel_rfl)
   ·obtain ⟨t310, A2, h⟩ := bnd h
    obtain ⟨t311, A3, h⟩ := bnd h
    rcases ite_e h with ⟨c4, h⟩ | ⟨c4, h⟩
    ·have h := si h; subst h
     exact jth Tryd.func23 [.br false, .r (.s (.i .i64 t310)), .r (.s (.i .i64 t311)), .br true] (fun e => ai (z0 c1) (ai (num_Sign.c A2) (ai (num_Sign.c A3) (ai (d1 c4) e)))) (by kernel_rfl)
    ·rcases ite_e h with ⟨c5, h⟩ | ⟨c5, h⟩
     ·have h := si h; subst h
      exact jth Tryd.func23 [.br false, .r (.s (.i .i64 t310)), .r (.s (.i .i64 t311)), .br false, .br true] (fun e => ai (z0 c1) (ai (num_Sign.c A2) (ai (num_Sign.c A3) (ai (d0 c4) (ai (d1 c5) e))))) (by kernel_rfl)
     ·rcases ite_e h with ⟨c6, h⟩ | ⟨c6, h⟩
      ·have h := si h; subst h
       exact jth Tryd.func23 [.br false, .r (.s (.i .i64 t310)), .r (.s (.i .i64 t311)), .br false, .br false, .br true] (fun e => ai (z0 c1) (ai (num_Sign.c A2) (ai (num_Sign.c A3) (ai (d0 c4) (ai (d0 c5) (ai (q1 c6) e)))))) (by kernel_rfl)
      ·obtain ⟨t312, A7, h⟩ := bnd h
       have h := si h; subst h
       exact jth Tryd.func23 [.br false, .r (.s (.i .i64 t310)), .r (.s (.i .i64 t311)), .br false, .br false, .br false, .r (.s (.i .i64 t312))] (fun e => ai (z0 c1) (ai (num_Sign.c A2) (ai (num_Sign.c A3) (ai (d0 c4) (ai (d0 c5) (ai (q0 c6) (ai (dyadic_size.c A7) e))))))) (by kernel_rfl)
theorem dyadic_Cmp.c {k : Nat} {a0_0 : Bool} {l0_1 : List Int} {a0_2 : Int} {a1_0 : Bool} {l1_1 : List Int} {a1_2 : Int} {r : Int × Int} (h : dyadic_Cmp.f k a0_0 l0_1 a0_2 a1_0 l1_1 a1_2 = some r) : Con Tryd.prog Gw 23 [.ag [.b a0_0, .sl .u64 l0_1, .i .i64 a0_2], .ag [.b a1_0, .sl .u64 l1_1, .i .i64 a1_2]] (· = .tu [.s (.i .i64 r.1), .s (.i .i64 r.2)]) := by
 unfold dyadic_Cmp.f at h
 obtain ⟨t308, A1, h⟩ := bnd h
 rcases ite_e h with ⟨c2, h⟩ | ⟨c2, h⟩
 ·obtain ⟨t309, A3, h⟩ := bnd h
  exact pth Tryd.func23 [.r (.s (.b t308)), .br false, .br false, .r (.s (.b t309)), .br false, .br false, .cut 0 [2, 3, 15] [0, 1] []] (fun _ => ai (dyadic_Form.c A1) (ai (nt1 c2) (ai (nt1 c2) (ai (dyadic_Form.c A3) (ai (nt1 c2) (ai (nt1 c2) (dyadic_Cmp.jc k _ _ _ _ _ _ _ _ h))))))) (by kernel_rfl)
 ·exact pth Tryd.func23 [.r (.s (.b t308)), .br true, .br true, .br true, .br true, .cut 0 [2, 3, 15] [0, 1] []] (fun _ => ai (dyadic_Form.c A1) (ai (nt0 (z0 c2)) (ai (nt0 (z0 c2)) (ai (nt0 (z0 c2)) (ai (nt0 (z0 c2)) (dyadic_Cmp.jc k _ _ _ _ _ _ _ _ h)))))) (by kernel_rfl)
def num_whole.f (a0 : Bool) (l1 : List Int) : Option (Bool × List Int) := if a0 = true then (some (decide ((l1.length : Int) > 0), l1)) else (some (false, l1))
theorem num_whole.c {a0 : Bool} {l1 : List Int} {r : Bool × List Int} (h : num_whole.f a0 l1 = some r) : Con Tryd.prog Gw 90 [.s (.b a0), .s (.sl .u64 l1)] (· = .ag [.b r.1, .sl .u64 r.2]) := by
 unfold num_whole.f at h
 rcases ite_e h with ⟨c1, h⟩ | ⟨c1, h⟩
 ·have h := si h; subst h
  exact pth Tryd.func90 [.br true, .br true, .br true, .br true] (fun e => ai c1 (ai c1 (ai c1 (ai c1 e)))) (by kernel_rfl)
 ·have h := si h; subst h
  exact pth Tryd.func90 [.br false, .br false, .br false, .br false] (fun e => ai (z0 c1) (ai (z0 c1) (ai (z0 c1) (ai (z0 c1) e)))) (by kernel_rfl)
def num_told.f (a0 : Bool) (l1 : List Int) (a2 : Int) : Option (Bool × List Int × Int) := if a2 = 0 then ((num_whole.f a0 l1).bind fun bt321 => (some (bt321.1, bt321.2, 0))) else (some (false, ([] : List Int), a2))
theorem num_told.c {a0 : Bool} {l1 : List Int} {a2 : Int} {r : Bool × List Int × Int} (h : num_told.f a0 l1 a2 = some r) : Con Tryd.prog Gw 103 [.s (.b a0), .s (.sl .u64 l1), .s (.i .i64 a2)] (· = .tu [.ag [.b r.1, .sl .u64 r.2.1], .s (.i .i64 r.2.2)]) := by
 unfold num_told.f at h
 rcases ite_e h with ⟨c1, h⟩ | ⟨c1, h⟩
 ·obtain ⟨bt321, A2, h⟩ := bnd h
  have h := si h; subst h
  exact pth Tryd.func103 [.br false, .r (.ag [.b bt321.1, .sl .u64 bt321.2])] (fun e => ai (n0 c1) (ai (num_whole.c A2) e)) (by kernel_rfl)
 ·have h := si h; subst h
  exact pth Tryd.func103 [.br true] (fun e => ai (n1 c1) e) (by kernel_rfl)
def num_Shl.f (a0_0 : Bool) (l0_1 : List Int) (a1 : Int) : Option (Bool × List Int × Int) := if a1 < 0 then (some (false, ([] : List Int), 1)) else ((num_Form.f a0_0 l0_1).bind fun t327 => (if t327 = true then ((nat_Shl.f l0_1 a1).bind fun bt328 => ((num_told.f a0_0 bt328.1 bt328.2).bind fun bt332 => (some (bt332.1, bt332.2.1, bt332.2.2)))) else (some (false, ([] : List Int), 2))))
theorem num_Shl.c {a0_0 : Bool} {l0_1 : List Int} {a1 : Int} {r : Bool × List Int × Int} (h : num_Shl.f a0_0 l0_1 a1 = some r) : Con Tryd.prog Gw 78 [.ag [.b a0_0, .sl .u64 l0_1], .s (.i .i64 a1)] (· = .tu [.ag [.b r.1, .sl .u64 r.2.1], .s (.i .i64 r.2.2)]) := by
 unfold num_Shl.f at h
 rcases ite_e h with ⟨c1, h⟩ | ⟨c1, h⟩
 ·have h := si h; subst h
  exact pth Tryd.func78 [.br true] (fun e => ai (d1 c1) e) (by kernel_rfl)
 ·obtain ⟨t327, A2, h⟩ := bnd h
  rcases ite_e h with ⟨c3, h⟩ | ⟨c3, h⟩
  ·obtain ⟨bt328, A4, h⟩ := bnd h
   obtain ⟨bt332, A5, h⟩ := bnd h
   have h := si h; subst h
   exact pth Tryd.func78 [.br false, .r (.s (.b t327)), .br false, .r (.tu [.s (.sl .u64 bt328.1), .s (.i .i64 bt328.2)]), .r (.tu [.ag [.b bt332.1, .sl .u64 bt332.2.1], .s (.i .i64 bt332.2.2)])] (fun e => ai (d0 c1) (ai (num_Form.c A2) (ai (nt1 c3) (ai (nat_Shl.c A4) (ai (num_told.c A5) e))))) (by kernel_rfl)
  ·have h := si h; subst h
   exact pth Tryd.func78 [.br false, .r (.s (.b t327)), .br true] (fun e => ai (d0 c1) (ai (num_Form.c A2) (ai (nt0 (z0 c3)) e))) (by kernel_rfl)
def nat_Word.f (a0 : Int) : Option (List Int) := if a0 = 0 then (some ([] : List Int)) else (some (([a0] : List Int)))
theorem nat_Word.c {a0 : Int} {r : List Int} (h : nat_Word.f a0 = some r) : Con Tryd.prog Gw 91 [.s (.i .u64 a0)] (· = .s (.sl .u64 r)) := by
 unfold nat_Word.f at h
 rcases ite_e h with ⟨c1, h⟩ | ⟨c1, h⟩
 ·have h := si h; subst h
  exact pth Tryd.func91 [.br true] (fun e => ai (q1 c1) e) (by kernel_rfl)
 ·have h := si h; subst h
  exact pth Tryd.func91 [.br false] (fun e => ai (q0 c1) e) (by kernel_rfl)
def gnomonref07_Of.f (a0 : Int) : Option (Int × Int × Int × Int × Int × Int × Bool) := if a0 = 32 then (some (2147483648, 24, (-149), 104, 2139095040, 2143289345, true)) else (if a0 = 64 then (some (9223372036854775808, 53, (-1074), 971, 9218868437227405312, 9221120237041090561, true)) else (some (0, 0, 0, 0, 0, 0, false)))
theorem gnomonref07_Of.c {a0 : Int} {r : Int × Int × Int × Int × Int × Int × Bool} (h : gnomonref07_Of.f a0 = some r) : Con Tryd.prog Gw 96 [.s (.i .i64 a0)] (· = .tu [.ag [.i .u64 r.1, .i .i64 r.2.1, .i .i64 r.2.2.1, .i .i64 r.2.2.2.1, .i .u64 r.2.2.2.2.1, .i .u64 r.2.2.2.2.2.1], .s (.b r.2.2.2.2.2.2)]) := by
 unfold gnomonref07_Of.f at h
 rcases ite_e h with ⟨c1, h⟩ | ⟨c1, h⟩
 ·have h := si h; subst h
  exact pth Tryd.func96 [.br true] (fun e => ai (q1 c1) e) (by kernel_rfl)
 ·rcases ite_e h with ⟨c2, h⟩ | ⟨c2, h⟩
  ·have h := si h; subst h
   exact pth Tryd.func96 [.br false, .br true] (fun e => ai (q0 c1) (ai (q1 c2) e)) (by kernel_rfl)
  ·have h := si h; subst h
   exact pth Tryd.func96 [.br false, .br false] (fun e => ai (q0 c1) (ai (q0 c2) e)) (by kernel_rfl)
def gnomonref07_Cut.f (a0_0 : Int) (a0_1 : Int) (a0_2 : Int) (a0_3 : Int) (a0_4 : Int) (a0_5 : Int) (a1 : Int) : Option (Bool × Int) := if a0_0 = 0 then (none) else (some (decide (a1 ≥ a0_0), Int.tmod a1 a0_0))
theorem gnomonref07_Cut.c {a0_0 : Int} {a0_1 : Int} {a0_2 : Int} {a0_3 : Int} {a0_4 : Int} {a0_5 : Int} {a1 : Int} {r : Bool × Int} (h : gnomonref07_Cut.f a0_0 a0_1 a0_2 a0_3 a0_4 a0_5 a1 = some r) : Con Tryd.prog Gw 128 [.ag [.i .u64 a0_0, .i .i64 a0_1, .i .i64 a0_2, .i .i64 a0_3, .i .u64 a0_4, .i .u64 a0_5], .s (.i .u64 a1)] (· = .tu [.s (.b r.1), .s (.i .u64 r.2)]) := by
 unfold gnomonref07_Cut.f at h
 rcases ite_e h with ⟨c1, h⟩ | ⟨c1, h⟩
 ·cases h
 ·have h := si h; subst h
  exact pth Tryd.func128 [] (fun e => ai c1 e) (by kernel_rfl)
def binary_shape_sign.f (a0_0 : Int) (a0_1 : Int) (a0_2 : Int) (a0_3 : Int) : Option (Int) := if 0 ≤ (wrap64 (a0_0 - 1)) then (some (shl .u64 1 (wrap64 (a0_0 - 1)))) else (none)
theorem binary_shape_sign.c {a0_0 : Int} {a0_1 : Int} {a0_2 : Int} {a0_3 : Int} {r : Int} (h : binary_shape_sign.f a0_0 a0_1 a0_2 a0_3 = some r) : Con Tryd.prog Gw 123 [.ag [.i .i64 a0_0, .i .i64 a0_1, .i .i64 a0_2, .i .u64 a0_3]] (· = .s (.i .u64 r)) := by
 unfold binary_shape_sign.f at h
 rcases ite_e h with ⟨c1, h⟩ | ⟨c1, h⟩
 ·have h := si h; subst h
  exact pth Tryd.func123 [] (fun e => ai c1 e) (by kernel_rfl)
 ·cases h
def binary_shape_hidden.f (a0_0 : Int) (a0_1 : Int) (a0_2 : Int) (a0_3 : Int) : Option (Int) := if 0 ≤ (wrap64 (a0_1 - 1)) then (some (shl .u64 1 (wrap64 (a0_1 - 1)))) else (none)
theorem binary_shape_hidden.c {a0_0 : Int} {a0_1 : Int} {a0_2 : Int} {a0_3 : Int} {r : Int} (h : binary_shape_hidden.f a0_0 a0_1 a0_2 a0_3 = some r) : Con Tryd.prog Gw 102 [.ag [.i .i64 a0_0, .i .i64 a0_1, .i .i64 a0_2, .i .u64 a0_3]] (· = .s (.i .u64 r)) := by
 unfold binary_shape_hidden.f at h
 rcases ite_e h with ⟨c1, h⟩ | ⟨c1, h⟩
 ·have h := si h; subst h
  exact pth Tryd.func102 [] (fun e => ai c1 e) (by kernel_rfl)
 ·cases h
def binary_shape_inf.f (a0_0 : Int) (a0_1 : Int) (a0_2 : Int) (a0_3 : Int) : Option (Int) := (binary_shape_sign.f a0_0 a0_1 a0_2 a0_3).bind fun t447 => ((binary_shape_hidden.f a0_0 a0_1 a0_2 a0_3).bind fun t448 => (some (IntKind.u64.wrap (t447 - t448))))
theorem binary_shape_inf.c {a0_0 : Int} {a0_1 : Int} {a0_2 : Int} {a0_3 : Int} {r : Int} (h : binary_shape_inf.f a0_0 a0_1 a0_2 a0_3 = some r) : Con Tryd.prog Gw 101 [.ag [.i .i64 a0_0, .i .i64 a0_1, .i .i64 a0_2, .i .u64 a0_3]] (· = .s (.i .u64 r)) := by
 unfold binary_shape_inf.f at h
 obtain ⟨t447, A1, h⟩ := bnd h
 obtain ⟨t448, A2, h⟩ := bnd h
 have h := si h; subst h
 exact pth Tryd.func101 [.r (.s (.i .u64 t447)), .r (.s (.i .u64 t448))] (fun e => ai (binary_shape_sign.c A1) (ai (binary_shape_hidden.c A2) e)) (by kernel_rfl)
def binary_shapeOf.f (a0 : Int) : Option (Int × Int × Int × Int) := if a0 = 32 then (some (32, 24, (-149), 2143289345)) else (if a0 = 64 then (some (64, 53, (-1074), 9221120237041090561)) else (some (0, 0, 0, 0)))
theorem binary_shapeOf.c {a0 : Int} {r : Int × Int × Int × Int} (h : binary_shapeOf.f a0 = some r) : Con Tryd.prog Gw 122 [.s (.i .i64 a0)] (· = .ag [.i .i64 r.1, .i .i64 r.2.1, .i .i64 r.2.2.1, .i .u64 r.2.2.2]) := by
 unfold binary_shapeOf.f at h
 rcases ite_e h with ⟨c1, h⟩ | ⟨c1, h⟩
 ·have h := si h; subst h
  exact pth Tryd.func122 [.br true] (fun e => ai (q1 c1) e) (by kernel_rfl)
 ·rcases ite_e h with ⟨c2, h⟩ | ⟨c2, h⟩
  ·have h := si h; subst h
   exact pth Tryd.func122 [.br false, .br true] (fun e => ai (q0 c1) (ai (q1 c2) e)) (by kernel_rfl)
  ·have h := si h; subst h
   exact pth Tryd.func122 [.br false, .br false] (fun e => ai (q0 c1) (ai (q0 c2) e)) (by kernel_rfl)
def binary_take.j0 : Nat → Int → Bool → Int → Int → Int → Int → Option (Int × Int × Int × Int × Bool × Int × Int)
 | 0, _, _, _, _, _, _ => none
 | k + 1, x1, x24, x456000, x456001, x456002, x456003 => if x24 = true then (some (x456000, x456001, x456002, x456003, false, 0, 2)) else ((binary_shape_sign.f x456000 x456001 x456002 x456003).bind fun t456 => ((binary_shape_sign.f x456000 x456001 x456002 x456003).bind fun t457 => (some (x456000, x456001, x456002, x456003, ((Go.bits .and .u64 x1 t456) != 0), Go.bits .andNot .u64 x1 t457, 0))))
def binary_take.f (k : Nat) (a0 : Int) (a1 : Int) : Option (Int × Int × Int × Int × Bool × Int × Int) := (binary_shapeOf.f a0).bind fun bt451 => (if (bt451.1 == 0 && (bt451.2.1 == 0 && (bt451.2.2.1 == 0 && (bt451.2.2.2 == 0)))) = true then (some (bt451.1, bt451.2.1, bt451.2.2.1, bt451.2.2.2, false, 0, 1)) else (if bt451.1 < 64 then (if 0 ≤ bt451.1 then (binary_take.j0 k a1 ((shr .u64 a1 bt451.1) != 0) bt451.1 bt451.2.1 bt451.2.2.1 bt451.2.2.2) else (none)) else (binary_take.j0 k a1 false bt451.1 bt451.2.1 bt451.2.2.1 bt451.2.2.2)))
theorem binary_take.mono_l : ∀ k, (∀ y0 y1 y2 y3 y4 y5, LeO (binary_take.j0 k y0 y1 y2 y3 y4 y5) (binary_take.j0 (k + 1) y0 y1 y2 y3 y4 y5))
 | 0 => fun _ _ _ _ _ _ r h => by simp [binary_take.j0] at h
 | k + 1 => by
  have ih0 := binary_take.mono_l k
  ·intro y0 y1 y2 y3 y4 y5
   unfold binary_take.j0
   repeat' first
   | (with_reducible exact ih0 _ _ _ _ _ _)
   | (with_reducible exact LeO.refl _)
   | (with_reducible exact LeO.none _)
   | (with_reducible refine LeO.ite ?_ ?_)
   | (with_reducible refine LeO.bind ?_ (fun _ => ?_))
   | exact ih0 _ _ _ _ _ _
   | exact LeO.none _
   | refine LeO.ite ?_ ?_
   | refine LeO.bind ?_ (fun _ => ?_)
theorem binary_take.mono : ∀ a0 a1 k, LeO (binary_take.f k a0 a1) (binary_take.f (k + 1) a0 a1) := by
 intro a0 a1 k
 have ih0 := binary_take.mono_l k
 unfold binary_take.f
 repeat' first
   | (with_reducible exact ih0 _ _ _ _ _ _)
   | (with_reducible exact LeO.refl _)
   | (with_reducible exact LeO.none _)
   | (with_reducible refine LeO.ite ?_ ?_)
   | (with_reducible refine LeO.bind ?_ (fun _ => ?_))
   | exact ih0 _ _ _ _ _ _
   | exact LeO.none _
   | refine LeO.ite ?_ ?_
   | refine LeO.bind ?_ (fun _ => ?_)
theorem binary_take.jc : ∀ k : Nat, (∀ (x1 : Int) (x24 : Bool) (x456000 : Int) (x456001 : Int) (x456002 : Int) (x456003 : Int) (r : Int × Int × Int × Int × Bool × Int × Int), binary_take.j0 k x1 x24 x456000 x456001 x456002 x456003 = some r → Fin Tryd.prog Gw 100 (nav (bodyOf Tryd.f100) [1, 1, 1, 0, 1] []) ⟨mkT 36 [(1, .s (.i .u64 x1)), (4, .s (.lo 0 0)), (8, .s (.lo 1 0)), (24, .s (.b x24))], [some (97, [.i .i64 0, .i .i64 0, .i .i64 0, .i .u64 0]), some (97, [.i .i64 x456000, .i .i64 x456001, .i .i64 x456002, .i .u64 x456003])]⟩ (· = .tu [.ag [.i .i64 r.1, .i .i64 r.2.1, .i .i64 r.2.2.1, .i .u64 r.2.2.2.1], .s (.b r.2.2.2.2.1), .s (.i .u64 r.2.2.2.2.2.1), .s (.i .i64 r.2.2.2.2.2.2)]))
 | 0 => (fun _ _ _ _ _ _ _ h => nn h)
 | k + 1 => by
  have ih := binary_take.jc k
  ·intro x1 x24 x456000 x456001 x456002 x456003 r h
   rw [binary_take.j0] at h
   rcases ite_e h with ⟨c1, h⟩ | ⟨c1, h⟩
   ·have h := si h; subst h
    exact jth Tryd.func100 [.br true] (fun e => ai c1 e) (by kernel_rfl)
   ·obtain ⟨t456, A2, h⟩ := bnd h
    obtain ⟨t457, A3, h⟩ := bnd h
    have h := si h; subst h
    exact jth Tryd.func100 [.br false, .r (.s (.i .u64 t456)), .r (.s (.i .u64 t457))] (fun e => ai (z0 c1) (ai (binary_shape_sign.c A2) (ai (binary_shape_sign.c A3) e))) (by kernel_rfl)
theorem binary_take.c {k : Nat} {a0 : Int} {a1 : Int} {r : Int × Int × Int × Int × Bool × Int × Int} (h : binary_take.f k a0 a1 = some r) : Con Tryd.prog Gw 100 [.s (.i .i64 a0), .s (.i .u64 a1)] (· = .tu [.ag [.i .i64 r.1, .i .i64 r.2.1, .i .i64 r.2.2.1, .i .u64 r.2.2.2.1], .s (.b r.2.2.2.2.1), .s (.i .u64 r.2.2.2.2.2.1), .s (.i .i64 r.2.2.2.2.2.2)]) := by
 unfold binary_take.f at h
 obtain ⟨bt451, A1, h⟩ := bnd h
 rcases ite_e h with ⟨c2, h⟩ | ⟨c2, h⟩
 ·have h := si h; subst h
  exact pth Tryd.func100 [.r (.ag [.i .i64 bt451.1, .i .i64 bt451.2.1, .i .i64 bt451.2.2.1, .i .u64 bt451.2.2.2]), .br true] (fun e => ai (binary_shapeOf.c A1) (ai c2 e)) (by kernel_rfl)
 ·rcases ite_e h with ⟨c3, h⟩ | ⟨c3, h⟩
  ·rcases ite_e h with ⟨c4, h⟩ | ⟨c4, h⟩
   ·exact pth Tryd.func100 [.r (.ag [.i .i64 bt451.1, .i .i64 bt451.2.1, .i .i64 bt451.2.2.1, .i .u64 bt451.2.2.2]), .br false, .br true, .br true, .br true, .br true, .br true, .br true, .cut 0 [1, 4, 8, 24] [0, 1] []] (fun _ => ai (binary_shapeOf.c A1) (ai (z0 c2) (ai (d1 c3) (ai (d1 c3) (ai (d1 c3) (ai (d1 c3) (ai c4 (ai (d1 c3) (ai (d1 c3) (binary_take.jc k _ _ _ _ _ _ _ h)))))))))) (by kernel_rfl)
   ·cases h
  ·exact pth Tryd.func100 [.r (.ag [.i .i64 bt451.1, .i .i64 bt451.2.1, .i .i64 bt451.2.2.1, .i .u64 bt451.2.2.2]), .br false, .br false, .br false, .br false, .br false, .br false, .br false, .cut 0 [1, 4, 8, 24] [0, 1] []] (fun _ => ai (binary_shapeOf.c A1) (ai (z0 c2) (ai (d0 c3) (ai (d0 c3) (ai (d0 c3) (ai (d0 c3) (ai (d0 c3) (ai (d0 c3) (binary_take.jc k _ _ _ _ _ _ _ h))))))))) (by kernel_rfl)
def binary_finite.j0 : Nat → Bool → Int → Int → Bool → Int → Int → Int → Int → Option (Int × Int × Int × Int × Bool × Int × Int)
 | 0, _, _, _, _, _, _, _, _ => none
 | k + 1, x9, x10, x11, x27, x467000, x467001, x467002, x467003 => if x27 = true then (some (x467000, x467001, x467002, x467003, false, 0, 6)) else (some (x467000, x467001, x467002, x467003, x9, x10, x11))
def binary_finite.f (k : Nat) (a0 : Int) (a1 : Int) : Option (Int × Int × Int × Int × Bool × Int × Int) := (binary_take.f k a0 a1).bind fun bt459 => (if bt459.2.2.2.2.2.2 = 0 then ((binary_shape_inf.f bt459.1 bt459.2.1 bt459.2.2.1 bt459.2.2.2.1).bind fun t467 => (binary_finite.j0 k bt459.2.2.2.2.1 bt459.2.2.2.2.2.1 bt459.2.2.2.2.2.2 (decide (bt459.2.2.2.2.2.1 ≥ t467)) bt459.1 bt459.2.1 bt459.2.2.1 bt459.2.2.2.1)) else (binary_finite.j0 k bt459.2.2.2.2.1 bt459.2.2.2.2.2.1 bt459.2.2.2.2.2.2 false bt459.1 bt459.2.1 bt459.2.2.1 bt459.2.2.2.1))
theorem binary_finite.mono_l : ∀ k, (∀ y0 y1 y2 y3 y4 y5 y6 y7, LeO (binary_finite.j0 k y0 y1 y2 y3 y4 y5 y6 y7) (binary_finite.j0 (k + 1) y0 y1 y2 y3 y4 y5 y6 y7))
 | 0 => fun _ _ _ _ _ _ _ _ r h => by simp [binary_finite.j0] at h
 | k + 1 => by
  have ih0 := binary_finite.mono_l k
  ·intro y0 y1 y2 y3 y4 y5 y6 y7
   unfold binary_finite.j0
   repeat' first
   | (with_reducible exact ih0 _ _ _ _ _ _ _ _)
   | (with_reducible exact binary_take.mono _ _ _)
   | (with_reducible exact LeO.refl _)
   | (with_reducible exact LeO.none _)
   | (with_reducible refine LeO.ite ?_ ?_)
   | (with_reducible refine LeO.bind ?_ (fun _ => ?_))
   | exact ih0 _ _ _ _ _ _ _ _
   | exact binary_take.mono _ _ _
   | exact LeO.none _
   | refine LeO.ite ?_ ?_
   | refine LeO.bind ?_ (fun _ => ?_)
theorem binary_finite.mono : ∀ a0 a1 k, LeO (binary_finite.f k a0 a1) (binary_finite.f (k + 1) a0 a1) := by
 intro a0 a1 k
 have ih0 := binary_finite.mono_l k
 unfold binary_finite.f
 repeat' first
   | (with_reducible exact ih0 _ _ _ _ _ _ _ _)
   | (with_reducible exact binary_take.mono _ _ _)
   | (with_reducible exact LeO.refl _)
   | (with_reducible exact LeO.none _)
   | (with_reducible refine LeO.ite ?_ ?_)
   | (with_reducible refine LeO.bind ?_ (fun _ => ?_))
   | exact ih0 _ _ _ _ _ _ _ _
   | exact binary_take.mono _ _ _
   | exact LeO.none _
   | refine LeO.ite ?_ ?_
   | refine LeO.bind ?_ (fun _ => ?_)
theorem binary_finite.jc : ∀ k : Nat, (∀ (x9 : Bool) (x10 : Int) (x11 : Int) (x27 : Bool) (x467000 : Int) (x467001 : Int) (x467002 : Int) (x467003 : Int) (r : Int × Int × Int × Int × Bool × Int × Int), binary_finite.j0 k x9 x10 x11 x27 x467000 x467001 x467002 x467003 = some r → Fin Tryd.prog Gw 75 (nav (bodyOf Tryd.f75) [1, 1, 0, 1] []) ⟨mkT 33 [(4, .s (.lo 0 0)), (8, .s (.lo 1 0)), (9, .s (.b x9)), (10, .s (.i .u64 x10)), (11, .s (.i .i64 x11)), (27, .s (.b x27))], [some (97, [.i .i64 0, .i .i64 0, .i .i64 0, .i .u64 0]), some (97, [.i .i64 x467000, .i .i64 x467001, .i .i64 x467002, .i .u64 x467003])]⟩ (· = .tu [.ag [.i .i64 r.1, .i .i64 r.2.1, .i .i64 r.2.2.1, .i .u64 r.2.2.2.1], .s (.b r.2.2.2.2.1), .s (.i .u64 r.2.2.2.2.2.1), .s (.i .i64 r.2.2.2.2.2.2)]))
 | 0 => (fun _ _ _ _ _ _ _ _ _ h => nn h)
 | k + 1 => by
  have ih := binary_finite.jc k
  ·intro x9 x10 x11 x27 x467000 x467001 x467002 x467003 r h
   rw [binary_finite.j0] at h
   rcases ite_e h with ⟨c1, h⟩ | ⟨c1, h⟩
   ·have h := si h; subst h
    exact jth Tryd.func75 [.br true] (fun e => ai c1 e) (by kernel_rfl)
   ·have h := si h; subst h
    exact jth Tryd.func75 [.br false] (fun e => ai (z0 c1) e) (by kernel_rfl)
theorem binary_finite.c {k : Nat} {a0 : Int} {a1 : Int} {r : Int × Int × Int × Int × Bool × Int × Int} (h : binary_finite.f k a0 a1 = some r) : Con Tryd.prog Gw 75 [.s (.i .i64 a0), .s (.i .u64 a1)] (· = .tu [.ag [.i .i64 r.1, .i .i64 r.2.1, .i .i64 r.2.2.1, .i .u64 r.2.2.2.1], .s (.b r.2.2.2.2.1), .s (.i .u64 r.2.2.2.2.2.1), .s (.i .i64 r.2.2.2.2.2.2)]) := by
 unfold binary_finite.f at h
 obtain ⟨bt459, A1, h⟩ := bnd h
 rcases ite_e h with ⟨c2, h⟩ | ⟨c2, h⟩
 ·obtain ⟨t467, A3, h⟩ := bnd h
  exact pth Tryd.func75 [.r (.tu [.ag [.i .i64 bt459.1, .i .i64 bt459.2.1, .i .i64 bt459.2.2.1, .i .u64 bt459.2.2.2.1], .s (.b bt459.2.2.2.2.1), .s (.i .u64 bt459.2.2.2.2.2.1), .s (.i .i64 bt459.2.2.2.2.2.2)]), .br true, .br true, .br true, .r (.s (.i .u64 t467)), .br true, .br true, .cut 0 [4, 8, 9, 10, 11, 27] [0, 1] []] (fun _ => ai (binary_take.c A1) (ai (q1 c2) (ai (q1 c2) (ai (q1 c2) (ai (binary_shape_inf.c A3) (ai (q1 c2) (ai (q1 c2) (binary_finite.jc k _ _ _ _ _ _ _ _ _ h)))))))) (by kernel_rfl)
 ·exact pth Tryd.func75 [.r (.tu [.ag [.i .i64 bt459.1, .i .i64 bt459.2.1, .i .i64 bt459.2.2.1, .i .u64 bt459.2.2.2.1], .s (.b bt459.2.2.2.2.1), .s (.i .u64 bt459.2.2.2.2.2.1), .s (.i .i64 bt459.2.2.2.2.2.2)]), .br false, .br false, .br false, .br false, .br false, .cut 0 [4, 8, 9, 10, 11, 27] [0, 1] []] (fun _ => ai (binary_take.c A1) (ai (q0 c2) (ai (q0 c2) (ai (q0 c2) (ai (q0 c2) (ai (q0 c2) (binary_finite.jc k _ _ _ _ _ _ _ _ _ h))))))) (by kernel_rfl)
def binary_shape_parts.f (a0_0 : Int) (a0_1 : Int) (a0_2 : Int) (a0_3 : Int) (a1 : Int) : Option (Int × Int) := (binary_shape_hidden.f a0_0 a0_1 a0_2 a0_3).bind fun t469 => (if t469 = 0 then (none) else ((binary_shape_hidden.f a0_0 a0_1 a0_2 a0_3).bind fun t470 => (if t470 = 0 then (none) else (if (IntKind.u64.wrap (Int.tdiv a1 t469)) = 0 then (some (Int.tmod a1 t470, a0_2)) else ((binary_shape_hidden.f a0_0 a0_1 a0_2 a0_3).bind fun t471 => (some (IntKind.u64.wrap (t471 + (Int.tmod a1 t470)), wrap64 ((wrap64 (a0_2 + (wrap64 (IntKind.u64.wrap (Int.tdiv a1 t469))))) - 1))))))))
theorem binary_shape_parts.c {a0_0 : Int} {a0_1 : Int} {a0_2 : Int} {a0_3 : Int} {a1 : Int} {r : Int × Int} (h : binary_shape_parts.f a0_0 a0_1 a0_2 a0_3 a1 = some r) : Con Tryd.prog Gw 76 [.ag [.i .i64 a0_0, .i .i64 a0_1, .i .i64 a0_2, .i .u64 a0_3], .s (.i .u64 a1)] (· = .tu [.s (.i .u64 r.1), .s (.i .i64 r.2)]) := by
 unfold binary_shape_parts.f at h
 obtain ⟨t469, A1, h⟩ := bnd h
 rcases ite_e h with ⟨c2, h⟩ | ⟨c2, h⟩
 ·cases h
 ·obtain ⟨t470, A3, h⟩ := bnd h
  rcases ite_e h with ⟨c4, h⟩ | ⟨c4, h⟩
  ·cases h
  ·rcases ite_e h with ⟨c5, h⟩ | ⟨c5, h⟩
   ·have h := si h; subst h
    exact pth Tryd.func76 [.r (.s (.i .u64 t469)), .r (.s (.i .u64 t470)), .br true] (fun e => ai (binary_shape_hidden.c A1) (ai c2 (ai (binary_shape_hidden.c A3) (ai c4 (ai (q1 c5) e))))) (by kernel_rfl)
   ·obtain ⟨t471, A6, h⟩ := bnd h
    have h := si h; subst h
    exact pth Tryd.func76 [.r (.s (.i .u64 t469)), .r (.s (.i .u64 t470)), .br false, .r (.s (.i .u64 t471))] (fun e => ai (binary_shape_hidden.c A1) (ai c2 (ai (binary_shape_hidden.c A3) (ai c4 (ai (q0 c5) (ai (binary_shape_hidden.c A6) e)))))) (by kernel_rfl)
def dyadic_Make.j0 : Nat → Int → Int → Bool → Bool → List Int → Option (Bool × List Int × Int × Int)
 | 0, _, _, _, _, _ => none
 | k + 1, x1, x6, x38, x473000, x473001 => if x38 = true then (some (false, ([] : List Int), 0, 5)) else ((nat_Shr.f x473001 x6).bind fun bt476 => (some (x473000, bt476.1, wrap64 (x1 + x6), 0)))
def dyadic_Make.f (k : Nat) (a0_0 : Bool) (l0_1 : List Int) (a1 : Int) : Option (Bool × List Int × Int × Int) := (num_Form.f a0_0 l0_1).bind fun t474 => (if t474 = true then (if (l0_1.length : Int) = 0 then (some (false, ([] : List Int), 0, 0)) else ((nat_Trail.f l0_1).bind fun t475 => (if a1 > 1048576 then (dyadic_Make.j0 k a1 t475 true a0_0 l0_1) else (if a1 < (-1572864) then (dyadic_Make.j0 k a1 t475 true a0_0 l0_1) else (if (wrap64 (a1 + t475)) < (-1048576) then (dyadic_Make.j0 k a1 t475 true a0_0 l0_1) else (dyadic_Make.j0 k a1 t475 (decide ((wrap64 (a1 + t475)) > 1048576)) a0_0 l0_1)))))) else (some (false, ([] : List Int), 0, 2)))
theorem dyadic_Make.mono_l : ∀ k, (∀ y0 y1 y2 y3 y4, LeO (dyadic_Make.j0 k y0 y1 y2 y3 y4) (dyadic_Make.j0 (k + 1) y0 y1 y2 y3 y4))
 | 0 => fun _ _ _ _ _ r h => by simp [dyadic_Make.j0] at h
 | k + 1 => by
  have ih0 := dyadic_Make.mono_l k
  ·intro y0 y1 y2 y3 y4
   unfold dyadic_Make.j0
   repeat' first
   | (with_reducible exact ih0 _ _ _ _ _)
   | (with_reducible exact LeO.refl _)
   | (with_reducible exact LeO.none _)
   | (with_reducible refine LeO.ite ?_ ?_)
   | (with_reducible refine LeO.bind ?_ (fun _ => ?_))
   | exact ih0 _ _ _ _ _
   | exact LeO.none _
   | refine LeO.ite ?_ ?_
   | refine LeO.bind ?_ (fun _ => ?_)
theorem dyadic_Make.mono : ∀ a0 a1 a2 k, LeO (dyadic_Make.f k a0 a1 a2) (dyadic_Make.f (k + 1) a0 a1 a2) := by
 intro a0 a1 a2 k
 have ih0 := dyadic_Make.mono_l k
 unfold dyadic_Make.f
 repeat' first
   | (with_reducible exact ih0 _ _ _ _ _)
   | (with_reducible exact LeO.refl _)
   | (with_reducible exact LeO.none _)
   | (with_reducible refine LeO.ite ?_ ?_)
   | (with_reducible refine LeO.bind ?_ (fun _ => ?_))
   | exact ih0 _ _ _ _ _
   | exact LeO.none _
   | refine LeO.ite ?_ ?_
   | refine LeO.bind ?_ (fun _ => ?_)
theorem dyadic_Make.jc : ∀ k : Nat, (∀ (x1 : Int) (x6 : Int) (x38 : Bool) (x473000 : Bool) (x473001 : List Int) (r : Bool × List Int × Int × Int), dyadic_Make.j0 k x1 x6 x38 x473000 x473001 = some r → Fin Tryd.prog Gw 65 (nav (bodyOf Tryd.f65) [1, 1, 1, 1, 0, 1] []) ⟨mkT 55 [(1, .s (.i .i64 x1)), (2, .s (.lo 0 0)), (4, .s (.lo 1 0)), (6, .s (.i .i64 x6)), (38, .s (.b x38))], [some (34, [.b x473000, .sl .u64 x473001]), some (36, [.b false, .sl .u64 ([]), .i .i64 0])]⟩ (· = .tu [.ag [.b r.1, .sl .u64 r.2.1, .i .i64 r.2.2.1], .s (.i .i64 r.2.2.2)]))
 | 0 => (fun _ _ _ _ _ _ h => nn h)
 | k + 1 => by
  have ih := dyadic_Make.jc k
  ·intro x1 x6 x38 x473000 x473001 r h
   rw [dyadic_Make.j0] at h
   rcases ite_e h with ⟨c1, h⟩ | ⟨c1, h⟩
   ·have h := si h; subst h
    exact jth Tryd.func65 [.br true] (fun e => ai c1 e) (by kernel_rfl)
   ·obtain ⟨bt476, A2, h⟩ := bnd h
    have h := si h; subst h
    exact jth Tryd.func65 [.br false, .r (.tu [.s (.sl .u64 bt476.1), .s (.i .i64 bt476.2)])] (fun e => ai (z0 c1) (ai (nat_Shr.c A2) e)) (by kernel_rfl)
theorem dyadic_Make.c {k : Nat} {a0_0 : Bool} {l0_1 : List Int} {a1 : Int} {r : Bool × List Int × Int × Int} (h : dyadic_Make.f k a0_0 l0_1 a1 = some r) : Con Tryd.prog Gw 65 [.ag [.b a0_0, .sl .u64 l0_1], .s (.i .i64 a1)] (· = .tu [.ag [.b r.1, .sl .u64 r.2.1, .i .i64 r.2.2.1], .s (.i .i64 r.2.2.2)]) := by
 unfold dyadic_Make.f at h
 obtain ⟨t474, A1, h⟩ := bnd h
 rcases ite_e h with ⟨c2, h⟩ | ⟨c2, h⟩
 ·rcases ite_e h with ⟨c3, h⟩ | ⟨c3, h⟩
  ·have h := si h; subst h
   exact pth Tryd.func65 [.r (.s (.b t474)), .br false, .br true] (fun e => ai (num_Form.c A1) (ai (nt1 c2) (ai (q1 c3) e))) (by kernel_rfl)
  ·obtain ⟨t475, A4, h⟩ := bnd h
   rcases ite_e h with ⟨c5, h⟩ | ⟨c5, h⟩
   ·exact pth Tryd.func65 [.r (.s (.b t474)), .br false, .br false, .r (.s (.i .i64 t475)), .br true, .br true, .br true, .br true, .br true, .br true, .br true, .br true, .br true, .br true, .br true, .br true, .br true, .cut 0 [1, 2, 4, 6, 38] [0, 1] []] (fun _ => ai (num_Form.c A1) (ai (nt1 c2) (ai (q0 c3) (ai (nat_Trail.c A4) (ai (d1 c5) (ai (d1 c5) (ai (d1 c5) (ai tt (ai tt (ai tt (ai tt (ai tt (ai tt (ai tt (ai tt (ai tt (ai tt (dyadic_Make.jc k _ _ _ _ _ _ h)))))))))))))))))) (by kernel_rfl)
   ·rcases ite_e h with ⟨c6, h⟩ | ⟨c6, h⟩
    ·exact pth Tryd.func65 [.r (.s (.b t474)), .br false, .br false, .r (.s (.i .i64 t475)), .br false, .br false, .br false, .br true, .br true, .br true, .br true, .br true, .br true, .br true, .br true, .br true, .br true, .cut 0 [1, 2, 4, 6, 38] [0, 1] []] (fun _ => ai (num_Form.c A1) (ai (nt1 c2) (ai (q0 c3) (ai (nat_Trail.c A4) (ai (d0 c5) (ai (d0 c5) (ai (d0 c5) (ai (d1 c6) (ai (d1 c6) (ai (d1 c6) (ai (d1 c6) (ai (d1 c6) (ai tt (ai tt (ai tt (ai tt (ai tt (dyadic_Make.jc k _ _ _ _ _ _ h)))))))))))))))))) (by kernel_rfl)
    ·rcases ite_e h with ⟨c7, h⟩ | ⟨c7, h⟩
     ·exact pth Tryd.func65 [.r (.s (.b t474)), .br false, .br false, .r (.s (.i .i64 t475)), .br false, .br false, .br false, .br false, .br false, .br false, .br false, .br false, .br true, .br true, .br true, .br true, .br true, .cut 0 [1, 2, 4, 6, 38] [0, 1] []] (fun _ => ai (num_Form.c A1) (ai (nt1 c2) (ai (q0 c3) (ai (nat_Trail.c A4) (ai (d0 c5) (ai (d0 c5) (ai (d0 c5) (ai (d0 c6) (ai (d0 c6) (ai (d0 c6) (ai (d0 c6) (ai (d0 c6) (ai (d1 c7) (ai (d1 c7) (ai (d1 c7) (ai (d1 c7) (ai (d1 c7) (dyadic_Make.jc k _ _ _ _ _ _ h)))))))))))))))))) (by kernel_rfl)
     ·exact pth Tryd.func65 [.r (.s (.b t474)), .br false, .br false, .r (.s (.i .i64 t475)), .br false, .br false, .br false, .br false, .br false, .br false, .br false, .br false, .br false, .br false, .br false, .br false, .br false, .cut 0 [1, 2, 4, 6, 38] [0, 1] []] (fun _ => ai (num_Form.c A1) (ai (nt1 c2) (ai (q0 c3) (ai (nat_Trail.c A4) (ai (d0 c5) (ai (d0 c5) (ai (d0 c5) (ai (d0 c6) (ai (d0 c6) (ai (d0 c6) (ai (d0 c6) (ai (d0 c6) (ai (d0 c7) (ai (d0 c7) (ai (d0 c7) (ai (d0 c7) (ai (d0 c7) (dyadic_Make.jc k _ _ _ _ _ _ h)))))))))))))))))) (by kernel_rfl)
 ·have h := si h; subst h
  exact pth Tryd.func65 [.r (.s (.b t474)), .br true] (fun e => ai (num_Form.c A1) (ai (nt0 (z0 c2)) e)) (by kernel_rfl)
def binary_number.f (k : Nat) (a0 : Bool) (a1 : Int) (a2 : Int) : Option (Bool × List Int × Int × Int) := if a0 = true then ((nat_Word.f a1).bind fun t481 => ((dyadic_Make.f k (a1 != 0) t481 a2).bind fun bt484 => (some (bt484.1, bt484.2.1, bt484.2.2.1, bt484.2.2.2)))) else ((nat_Word.f a1).bind fun t490 => ((dyadic_Make.f k false t490 a2).bind fun bt493 => (some (bt493.1, bt493.2.1, bt493.2.2.1, bt493.2.2.2))))
theorem binary_number.mono : ∀ a0 a1 a2 k, LeO (binary_number.f k a0 a1 a2) (binary_number.f (k + 1) a0 a1 a2) := by
 intro a0 a1 a2 k
 unfold binary_number.f
 repeat' first
   | (with_reducible exact dyadic_Make.mono _ _ _ _)
   | (with_reducible exact LeO.refl _)
   | (with_reducible exact LeO.none _)
   | (with_reducible refine LeO.ite ?_ ?_)
   | (with_reducible refine LeO.bind ?_ (fun _ => ?_))
   | exact dyadic_Make.mono _ _ _ _
   | exact LeO.none _
   | refine LeO.ite ?_ ?_
   | refine LeO.bind ?_ (fun _ => ?_)
theorem binary_number.c {k : Nat} {a0 : Bool} {a1 : Int} {a2 : Int} {r : Bool × List Int × Int × Int} (h : binary_number.f k a0 a1 a2 = some r) : Con Tryd.prog Gw 77 [.s (.b a0), .s (.i .u64 a1), .s (.i .i64 a2)] (· = .tu [.ag [.b r.1, .sl .u64 r.2.1, .i .i64 r.2.2.1], .s (.i .i64 r.2.2.2)]) := by
 unfold binary_number.f at h
 rcases ite_e h with ⟨c1, h⟩ | ⟨c1, h⟩
 ·obtain ⟨t481, A2, h⟩ := bnd h
  obtain ⟨bt484, A3, h⟩ := bnd h
  have h := si h; subst h
  exact pth Tryd.func77 [.br true, .br true, .br true, .r (.s (.sl .u64 t481)), .r (.tu [.ag [.b bt484.1, .sl .u64 bt484.2.1, .i .i64 bt484.2.2.1], .s (.i .i64 bt484.2.2.2)])] (fun e => ai c1 (ai c1 (ai c1 (ai (nat_Word.c A2) (ai (dyadic_Make.c A3) e))))) (by kernel_rfl)
 ·obtain ⟨t490, A4, h⟩ := bnd h
  obtain ⟨bt493, A5, h⟩ := bnd h
  have h := si h; subst h
  exact pth Tryd.func77 [.br false, .br false, .br false, .r (.s (.sl .u64 t490)), .r (.tu [.ag [.b bt493.1, .sl .u64 bt493.2.1, .i .i64 bt493.2.2.1], .s (.i .i64 bt493.2.2.2)])] (fun e => ai (z0 c1) (ai (z0 c1) (ai (z0 c1) (ai (nat_Word.c A4) (ai (dyadic_Make.c A5) e))))) (by kernel_rfl)
def dyadic_twin.f (a0_0 : Bool) (l0_1 : List Int) (a0_2 : Int) : Option (Bool × List Int × Int) := (slices_Clone_uint64_uint64.f l0_1).bind fun t715 => (some (a0_0, t715, a0_2))
theorem dyadic_twin.c {a0_0 : Bool} {l0_1 : List Int} {a0_2 : Int} {r : Bool × List Int × Int} (h : dyadic_twin.f a0_0 l0_1 a0_2 = some r) : Con Tryd.prog Gw 53 [.ag [.b a0_0, .sl .u64 l0_1, .i .i64 a0_2]] (· = .ag [.b r.1, .sl .u64 r.2.1, .i .i64 r.2.2]) := by
 unfold dyadic_twin.f at h
 obtain ⟨t715, A1, h⟩ := bnd h
 have h := si h; subst h
 exact pth Tryd.func53 [.r (.s (.sl .u64 t715))] (fun e => ai (slices_Clone_uint64_uint64.c A1) e) (by kernel_rfl)
def dyadic_Neg.f (k : Nat) (a0_0 : Bool) (l0_1 : List Int) (a0_2 : Int) : Option (Bool × List Int × Int × Int) := (dyadic_Form.f k a0_0 l0_1 a0_2).bind fun t720 => (if t720 = true then ((dyadic_twin.f a0_0 l0_1 a0_2).bind fun bt721 => (if bt721.1 = true then (some (false, bt721.2.1, bt721.2.2, 0)) else ((dyadic_nought.f bt721.1 bt721.2.1 bt721.2.2).bind fun t726 => (some (!t726, bt721.2.1, bt721.2.2, 0))))) else (some (false, ([] : List Int), 0, 2)))
theorem dyadic_Neg.mono : ∀ a0 a1 a2 k, LeO (dyadic_Neg.f k a0 a1 a2) (dyadic_Neg.f (k + 1) a0 a1 a2) := by
 intro a0 a1 a2 k
 unfold dyadic_Neg.f
 repeat' first
   | (with_reducible exact dyadic_Form.mono _ _ _ _)
   | (with_reducible exact LeO.refl _)
   | (with_reducible exact LeO.none _)
   | (with_reducible refine LeO.ite ?_ ?_)
   | (with_reducible refine LeO.bind ?_ (fun _ => ?_))
   | exact dyadic_Form.mono _ _ _ _
   | exact LeO.none _
   | refine LeO.ite ?_ ?_
   | refine LeO.bind ?_ (fun _ => ?_)
theorem dyadic_Neg.c {k : Nat} {a0_0 : Bool} {l0_1 : List Int} {a0_2 : Int} {r : Bool × List Int × Int × Int} (h : dyadic_Neg.f k a0_0 l0_1 a0_2 = some r) : Con Tryd.prog Gw 15 [.ag [.b a0_0, .sl .u64 l0_1, .i .i64 a0_2]] (· = .tu [.ag [.b r.1, .sl .u64 r.2.1, .i .i64 r.2.2.1], .s (.i .i64 r.2.2.2)]) := by
 unfold dyadic_Neg.f at h
 obtain ⟨t720, A1, h⟩ := bnd h
 rcases ite_e h with ⟨c2, h⟩ | ⟨c2, h⟩
 ·obtain ⟨bt721, A3, h⟩ := bnd h
  rcases ite_e h with ⟨c4, h⟩ | ⟨c4, h⟩
  ·have h := si h; subst h
   exact pth Tryd.func15 [.r (.s (.b t720)), .br false, .r (.ag [.b bt721.1, .sl .u64 bt721.2.1, .i .i64 bt721.2.2]), .br false, .br false, .br false, .br false] (fun e => ai (dyadic_Form.c A1) (ai (nt1 c2) (ai (dyadic_twin.c A3) (ai (nt1 c4) (ai (nt1 c4) (ai (nt1 c4) (ai (nt1 c4) e))))))) (by kernel_rfl)
  ·obtain ⟨t726, A5, h⟩ := bnd h
   have h := si h; subst h
   exact pth Tryd.func15 [.r (.s (.b t720)), .br false, .r (.ag [.b bt721.1, .sl .u64 bt721.2.1, .i .i64 bt721.2.2]), .br true, .br true, .r (.s (.b t726)), .br true, .br true] (fun e => ai (dyadic_Form.c A1) (ai (nt1 c2) (ai (dyadic_twin.c A3) (ai (nt0 (z0 c4)) (ai (nt0 (z0 c4)) (ai (dyadic_nought.c A5) (ai (nt0 (z0 c4)) (ai (nt0 (z0 c4)) e)))))))) (by kernel_rfl)
 ·have h := si h; subst h
  exact pth Tryd.func15 [.r (.s (.b t720)), .br true] (fun e => ai (dyadic_Form.c A1) (ai (nt0 (z0 c2)) e)) (by kernel_rfl)
end Go.Proofs.YtapikmfckpgjoaaDoor.PLib
