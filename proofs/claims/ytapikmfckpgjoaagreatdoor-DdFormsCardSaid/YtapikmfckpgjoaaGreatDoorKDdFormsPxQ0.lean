/- Functions of the program as plain Lean functions (definitions as the print's), and that the machine's calls do what they do (contracts 'X.c', by Px). Condition: math/bits' table is laid. -/
import Derived.Test.YtapikmfckpgjoaaGreatDoorKDdFormsPxL0
import Derived.Test.YtapikmfckpgjoaaGreatDoorKDdFormsPxL1
import Derived.Test.YtapikmfckpgjoaaGreatDoorKDdFormsPxL2
import Derived.Test.YtapikmfckpgjoaaGreatDoorKDdFormsPxZ0
import Derived.Test.YtapikmfckpgjoaaGreatDoorKDdFormsPxRef
import Derived.Test.YtapikmfckpgjoaaGreatDoorKDdFormsPxRfz
set_option linter.unusedVariables false
namespace Go.Proofs.YtapikmfckpgjoaaGreatDoor.PLib
open Go Go.RowKit Go.Proofs.YtapikmfckpgjoaaGreatDoorW.PrintWords Go.Proofs.YtapikmfckpgjoaaGreatDoorW.PrintMore Go.Proofs.YtapikmfckpgjoaaGreatDoor.Given Go.Proofs.YtapikmfckpgjoaaGreatDoor.Px Go.Proofs.YtapikmfckpgjoaaGreatDoor.PRef Go.Proofs.YtapikmfckpgjoaaGreatDoor.PRfz
def gnomonref04_To.f (k : Nat) (a0_0 : Bool) (l0_1 : List Int) : Option (Bool × List Int) := if a0_0 = true then ((gnomonref01_To.f k l0_1).bind fun t160 => (some (decide ((l0_1.length : Int) > 0), t160))) else ((gnomonref01_To.f k l0_1).bind fun t163 => (some (false, t163)))
theorem gnomonref04_To.mono : ∀ a0 a1 k, LeO (gnomonref04_To.f k a0 a1) (gnomonref04_To.f (k + 1) a0 a1) := by
 intro a0 a1 k
 unfold gnomonref04_To.f
 repeat' first
   | (with_reducible exact gnomonref01_To.mono _ _)
   | (with_reducible exact LeO.refl _)
   | (with_reducible exact LeO.none _)
   | (with_reducible refine LeO.ite ?_ ?_)
   | (with_reducible refine LeO.bind ?_ (fun _ => ?_))
   | exact gnomonref01_To.mono _ _
   | exact LeO.none _
   | refine LeO.ite ?_ ?_
   | refine LeO.bind ?_ (fun _ => ?_)
theorem gnomonref04_To.c {k : Nat} {a0_0 : Bool} {l0_1 : List Int} {r : Bool × List Int} (h : gnomonref04_To.f k a0_0 l0_1 = some r) : Con Tryz.prog Gw 133 [.ag [.b a0_0, .sl .u32 l0_1]] (· = .ag [.b r.1, .sl .u64 r.2]) := by
 unfold gnomonref04_To.f at h
 rcases ite_e h with ⟨c1, h⟩ | ⟨c1, h⟩
 ·obtain ⟨t160, A2, h⟩ := bnd h
  have h := si h; subst h
  exact pth Tryz.func133 [.br true, .br true, .br true, .br true, .br true, .r (.s (.sl .u64 t160))] (fun e => ai c1 (ai c1 (ai c1 (ai c1 (ai c1 (ai (gnomonref01_To.c A2) e)))))) (by kernel_rfl)
 ·obtain ⟨t163, A3, h⟩ := bnd h
  have h := si h; subst h
  exact pth Tryz.func133 [.br false, .br false, .br false, .br false, .br false, .r (.s (.sl .u64 t163))] (fun e => ai (z0 c1) (ai (z0 c1) (ai (z0 c1) (ai (z0 c1) (ai (z0 c1) (ai (gnomonref01_To.c A3) e)))))) (by kernel_rfl)
mutual
def gnomonref05_Told.j0 : Nat → Int → Bool → Bool → List Int → Option (Bool × List Int × Int × Int)
 | 0, _, _, _, _ => none
 | k + 1, x1, x18, x171000, x171001 => if x18 = true then (some (false, ([] : List Int), 0, 5)) else ((gnomonref01_Zeros.f k x171001).bind fun t172 => ((gnomonref01_Shr.f k x171001 t172).bind fun t173 => (if (t173.length : Int) > 16384 then (gnomonref05_Told.j1 k x1 t172 t173 true x171000 x171001) else (if (wrap64 (x1 + t172)) < (-1048576) then (gnomonref05_Told.j1 k x1 t172 t173 true x171000 x171001) else (gnomonref05_Told.j1 k x1 t172 t173 (decide ((wrap64 (x1 + t172)) > 1048576)) x171000 x171001)))))
def gnomonref05_Told.j1 : Nat → Int → Int → List Int → Bool → Bool → List Int → Option (Bool × List Int × Int × Int)
 | 0, _, _, _, _, _, _ => none
 | k + 1, x1, x6, x7, x41, x171000, x171001 => if x41 = true then (some (false, ([] : List Int), 0, 5)) else ((gnomonref04_Mk.f k x171000 x7).bind fun bt176 => ((gnomonref04_To.f k bt176.1 bt176.2).bind fun bt180 => (some (bt180.1, bt180.2, wrap64 (x1 + x6), 0))))
end
def gnomonref05_Told.f (k : Nat) (a0_0 : Bool) (l0_1 : List Int) (a1 : Int) : Option (Bool × List Int × Int × Int) := if (l0_1.length : Int) = 0 then (some (false, ([] : List Int), 0, 0)) else (if a1 > 1048576 then (gnomonref05_Told.j0 k a1 true a0_0 l0_1) else (gnomonref05_Told.j0 k a1 (decide (a1 < (-1099511627776))) a0_0 l0_1))
theorem gnomonref05_Told.mono_l : ∀ k, (∀ y0 y1 y2 y3, LeO (gnomonref05_Told.j0 k y0 y1 y2 y3) (gnomonref05_Told.j0 (k + 1) y0 y1 y2 y3)) ∧ (∀ y0 y1 y2 y3 y4 y5, LeO (gnomonref05_Told.j1 k y0 y1 y2 y3 y4 y5) (gnomonref05_Told.j1 (k + 1) y0 y1 y2 y3 y4 y5))
 | 0 => ⟨fun _ _ _ _ r h => by simp [gnomonref05_Told.j0] at h, fun _ _ _ _ _ _ r h => by simp [gnomonref05_Told.j1] at h⟩
 | k + 1 => by
  obtain ⟨ih0, ih1⟩ := gnomonref05_Told.mono_l k
  refine ⟨?_, ?_⟩
  ·intro y0 y1 y2 y3
   unfold gnomonref05_Told.j0
   repeat' first
   | (with_reducible exact ih0 _ _ _ _)
   | (with_reducible exact ih1 _ _ _ _ _ _)
   | (with_reducible exact gnomonref01_Shr.mono _ _ _)
   | (with_reducible exact gnomonref01_Zeros.mono _ _)
   | (with_reducible exact gnomonref04_Mk.mono _ _ _)
   | (with_reducible exact gnomonref04_To.mono _ _ _)
   | (with_reducible exact LeO.refl _)
   | (with_reducible exact LeO.none _)
   | (with_reducible refine LeO.ite ?_ ?_)
   | (with_reducible refine LeO.bind ?_ (fun _ => ?_))
   | exact ih0 _ _ _ _
   | exact ih1 _ _ _ _ _ _
   | exact gnomonref01_Shr.mono _ _ _
   | exact gnomonref01_Zeros.mono _ _
   | exact gnomonref04_Mk.mono _ _ _
   | exact gnomonref04_To.mono _ _ _
   | exact LeO.none _
   | refine LeO.ite ?_ ?_
   | refine LeO.bind ?_ (fun _ => ?_)
  ·intro y0 y1 y2 y3 y4 y5
   unfold gnomonref05_Told.j1
   repeat' first
   | (with_reducible exact ih0 _ _ _ _)
   | (with_reducible exact ih1 _ _ _ _ _ _)
   | (with_reducible exact gnomonref01_Shr.mono _ _ _)
   | (with_reducible exact gnomonref01_Zeros.mono _ _)
   | (with_reducible exact gnomonref04_Mk.mono _ _ _)
   | (with_reducible exact gnomonref04_To.mono _ _ _)
   | (with_reducible exact LeO.refl _)
   | (with_reducible exact LeO.none _)
   | (with_reducible refine LeO.ite ?_ ?_)
   | (with_reducible refine LeO.bind ?_ (fun _ => ?_))
   | exact ih0 _ _ _ _
   | exact ih1 _ _ _ _ _ _
   | exact gnomonref01_Shr.mono _ _ _
   | exact gnomonref01_Zeros.mono _ _
   | exact gnomonref04_Mk.mono _ _ _
   | exact gnomonref04_To.mono _ _ _
   | exact LeO.none _
   | refine LeO.ite ?_ ?_
   | refine LeO.bind ?_ (fun _ => ?_)
theorem gnomonref05_Told.mono : ∀ a0 a1 a2 k, LeO (gnomonref05_Told.f k a0 a1 a2) (gnomonref05_Told.f (k + 1) a0 a1 a2) := by
 intro a0 a1 a2 k
 obtain ⟨ih0, ih1⟩ := gnomonref05_Told.mono_l k
 unfold gnomonref05_Told.f
 repeat' first
   | (with_reducible exact ih0 _ _ _ _)
   | (with_reducible exact ih1 _ _ _ _ _ _)
   | (with_reducible exact gnomonref01_Shr.mono _ _ _)
   | (with_reducible exact gnomonref01_Zeros.mono _ _)
   | (with_reducible exact gnomonref04_Mk.mono _ _ _)
   | (with_reducible exact gnomonref04_To.mono _ _ _)
   | (with_reducible exact LeO.refl _)
   | (with_reducible exact LeO.none _)
   | (with_reducible refine LeO.ite ?_ ?_)
   | (with_reducible refine LeO.bind ?_ (fun _ => ?_))
   | exact ih0 _ _ _ _
   | exact ih1 _ _ _ _ _ _
   | exact gnomonref01_Shr.mono _ _ _
   | exact gnomonref01_Zeros.mono _ _
   | exact gnomonref04_Mk.mono _ _ _
   | exact gnomonref04_To.mono _ _ _
   | exact LeO.none _
   | refine LeO.ite ?_ ?_
   | refine LeO.bind ?_ (fun _ => ?_)
theorem gnomonref05_Told.jc : ∀ k : Nat, (∀ (x1 : Int) (x18 : Bool) (x171000 : Bool) (x171001 : List Int) (r : Bool × List Int × Int × Int), gnomonref05_Told.j0 k x1 x18 x171000 x171001 = some r → Fin Tryz.prog Gw 120 (nav (bodyOf Tryz.f120) [1, 1, 0, 1] []) ⟨mkT 52 [(1, .s (.i .i64 x1)), (2, .s (.lo 0 0)), (4, .s (.lo 1 0)), (18, .s (.b x18))], [some (39, [.b x171000, .sl .u32 x171001]), some (50, [.b false, .sl .u64 ([]), .i .i64 0])]⟩ (· = .tu [.ag [.b r.1, .sl .u64 r.2.1, .i .i64 r.2.2.1], .s (.i .i64 r.2.2.2)])) ∧ (∀ (x1 : Int) (x6 : Int) (x7 : List Int) (x41 : Bool) (x171000 : Bool) (x171001 : List Int) (r : Bool × List Int × Int × Int), gnomonref05_Told.j1 k x1 x6 x7 x41 x171000 x171001 = some r → Fin Tryz.prog Gw 120 (nav (bodyOf Tryz.f120) [1, 1, 1, 1, 1, 0, 1] []) ⟨mkT 52 [(1, .s (.i .i64 x1)), (2, .s (.lo 0 0)), (4, .s (.lo 1 0)), (6, .s (.i .i64 x6)), (7, .s (.sl .u32 x7)), (41, .s (.b x41))], [some (39, [.b x171000, .sl .u32 x171001]), some (50, [.b false, .sl .u64 ([]), .i .i64 0])]⟩ (· = .tu [.ag [.b r.1, .sl .u64 r.2.1, .i .i64 r.2.2.1], .s (.i .i64 r.2.2.2)]))
 | 0 => ⟨(fun _ _ _ _ _ h => nn h), (fun _ _ _ _ _ _ _ h => nn h)⟩
 | k + 1 => by
  have ih := gnomonref05_Told.jc k
  refine ⟨?_, ?_⟩
  ·intro x1 x18 x171000 x171001 r h
   rw [gnomonref05_Told.j0] at h
   rcases ite_e h with ⟨c1, h⟩ | ⟨c1, h⟩
   ·have h := si h; subst h
    exact jth Tryz.func120 [.br true] (fun e => ai c1 e) (by kernel_rfl)
   ·obtain ⟨t172, A2, h⟩ := bnd h
    obtain ⟨t173, A3, h⟩ := bnd h
    rcases ite_e h with ⟨c4, h⟩ | ⟨c4, h⟩
    ·exact jth Tryz.func120 [.br false, .r (.s (.i .i64 t172)), .r (.s (.sl .u32 t173)), .br true, .br true, .br true, .br true, .br true, .br true, .br true, .br true, .br true, .br true, .cut 0 [1, 2, 4, 6, 7, 41] [0, 1] []] (fun _ => ai (z0 c1) (ai (gnomonref01_Zeros.c A2) (ai (gnomonref01_Shr.c A3) (ai (d1 c4) (ai (d1 c4) (ai (d1 c4) (ai (d1 c4) (ai (d1 c4) (ai tt (ai tt (ai tt (ai tt (ai tt (ih.2 _ _ _ _ _ _ _ h)))))))))))))) (by kernel_rfl)
    ·rcases ite_e h with ⟨c5, h⟩ | ⟨c5, h⟩
     ·exact jth Tryz.func120 [.br false, .r (.s (.i .i64 t172)), .r (.s (.sl .u32 t173)), .br false, .br false, .br false, .br false, .br false, .br true, .br true, .br true, .br true, .br true, .cut 0 [1, 2, 4, 6, 7, 41] [0, 1] []] (fun _ => ai (z0 c1) (ai (gnomonref01_Zeros.c A2) (ai (gnomonref01_Shr.c A3) (ai (d0 c4) (ai (d0 c4) (ai (d0 c4) (ai (d0 c4) (ai (d0 c4) (ai (d1 c5) (ai (d1 c5) (ai (d1 c5) (ai (d1 c5) (ai (d1 c5) (ih.2 _ _ _ _ _ _ _ h)))))))))))))) (by kernel_rfl)
     ·exact jth Tryz.func120 [.br false, .r (.s (.i .i64 t172)), .r (.s (.sl .u32 t173)), .br false, .br false, .br false, .br false, .br false, .br false, .br false, .br false, .br false, .br false, .cut 0 [1, 2, 4, 6, 7, 41] [0, 1] []] (fun _ => ai (z0 c1) (ai (gnomonref01_Zeros.c A2) (ai (gnomonref01_Shr.c A3) (ai (d0 c4) (ai (d0 c4) (ai (d0 c4) (ai (d0 c4) (ai (d0 c4) (ai (d0 c5) (ai (d0 c5) (ai (d0 c5) (ai (d0 c5) (ai (d0 c5) (ih.2 _ _ _ _ _ _ _ h)))))))))))))) (by kernel_rfl)
  ·intro x1 x6 x7 x41 x171000 x171001 r h
   rw [gnomonref05_Told.j1] at h
   rcases ite_e h with ⟨c1, h⟩ | ⟨c1, h⟩
   ·have h := si h; subst h
    exact jth Tryz.func120 [.br true] (fun e => ai c1 e) (by kernel_rfl)
   ·obtain ⟨bt176, A2, h⟩ := bnd h
    obtain ⟨bt180, A3, h⟩ := bnd h
    have h := si h; subst h
    exact jth Tryz.func120 [.br false, .r (.ag [.b bt176.1, .sl .u32 bt176.2]), .r (.ag [.b bt180.1, .sl .u64 bt180.2])] (fun e => ai (z0 c1) (ai (gnomonref04_Mk.c A2) (ai (gnomonref04_To.c A3) e))) (by kernel_rfl)
theorem gnomonref05_Told.c {k : Nat} {a0_0 : Bool} {l0_1 : List Int} {a1 : Int} {r : Bool × List Int × Int × Int} (h : gnomonref05_Told.f k a0_0 l0_1 a1 = some r) : Con Tryz.prog Gw 120 [.ag [.b a0_0, .sl .u32 l0_1], .s (.i .i64 a1)] (· = .tu [.ag [.b r.1, .sl .u64 r.2.1, .i .i64 r.2.2.1], .s (.i .i64 r.2.2.2)]) := by
 unfold gnomonref05_Told.f at h
 rcases ite_e h with ⟨c1, h⟩ | ⟨c1, h⟩
 ·have h := si h; subst h
  exact pth Tryz.func120 [.br true] (fun e => ai (q1 c1) e) (by kernel_rfl)
 ·rcases ite_e h with ⟨c2, h⟩ | ⟨c2, h⟩
  ·exact pth Tryz.func120 [.br false, .br true, .br true, .br true, .cut 0 [1, 2, 4, 18] [0, 1] []] (fun _ => ai (q0 c1) (ai (d1 c2) (ai (d1 c2) (ai (d1 c2) ((gnomonref05_Told.jc k).1 _ _ _ _ _ h))))) (by kernel_rfl)
  ·exact pth Tryz.func120 [.br false, .br false, .br false, .br false, .cut 0 [1, 2, 4, 18] [0, 1] []] (fun _ => ai (q0 c1) (ai (d0 c2) (ai (d0 c2) (ai (d0 c2) ((gnomonref05_Told.jc k).1 _ _ _ _ _ h))))) (by kernel_rfl)
def gnomonref20_DocValue.f (k : Nat) (a0_0 : Int) (a0_1 : Int) : Option (Bool × List Int × Int × Int) := (gnomonref20_DocForm.f k a0_0 a0_1).bind fun t1 => (if t1 = true then ((gnomonref20_Sum.f k a0_0 a0_1).bind fun bt2 => ((gnomonref05_Told.f k bt2.1 bt2.2 (-1074)).bind fun bt3 => (some (bt3.1, bt3.2.1, bt3.2.2.1, 0)))) else (some (false, ([] : List Int), 0, 2)))
theorem gnomonref20_DocValue.mono : ∀ a0 a1 k, LeO (gnomonref20_DocValue.f k a0 a1) (gnomonref20_DocValue.f (k + 1) a0 a1) := by
 intro a0 a1 k
 unfold gnomonref20_DocValue.f
 repeat' first
  | (with_reducible exact gnomonref05_Told.mono _ _ _ _)
  | (with_reducible exact gnomonref20_DocForm.mono _ _ _)
  | (with_reducible exact gnomonref20_Sum.mono _ _ _)
  | (with_reducible exact LeO.refl _)
  | (with_reducible exact LeO.none _)
  | (with_reducible refine LeO.ite ?_ ?_)
  | (with_reducible refine LeO.bind ?_ (fun _ => ?_))
theorem gnomonref20_DocValue.c {k : Nat} {a0_0 : Int} {a0_1 : Int} {r : Bool × List Int × Int × Int} (h : gnomonref20_DocValue.f k a0_0 a0_1 = some r) : Con Tryz.prog Gw 93 [.ag [.i .u64 a0_0, .i .u64 a0_1]] (· = .tu [.ag [.b r.1, .sl .u64 r.2.1, .i .i64 r.2.2.1], .s (.i .i64 r.2.2.2)]) := by
 unfold gnomonref20_DocValue.f at h
 obtain ⟨t1, A1, h⟩ := bnd h
 rcases ite_e h with ⟨c2, h⟩ | ⟨c2, h⟩
 ·obtain ⟨bt2, A3, h⟩ := bnd h
  obtain ⟨bt3, A4, h⟩ := bnd h
  have h := si h; subst h
  exact pth Tryz.func93 [.r (.s (.b t1)), .br false, .r (.ag [.b bt2.1, .sl .u32 bt2.2]), .r (.tu [.ag [.b bt3.1, .sl .u64 bt3.2.1, .i .i64 bt3.2.2.1], .s (.i .i64 bt3.2.2.2)])] (fun e => ai (gnomonref20_DocForm.c A1) (ai (nt1 c2) (ai (gnomonref20_Sum.c A3) (ai (gnomonref05_Told.c A4) e)))) (by kernel_rfl)
 ·have h := si h; subst h
  exact pth Tryz.func93 [.r (.s (.b t1)), .br true] (fun e => ai (gnomonref20_DocForm.c A1) (ai (nt0 (z0 c2)) e)) (by kernel_rfl)
def gnomonlaw20_asks.f (k : Nat) (a0_0 : Int) (a0_1 : Int) (a0_2 : Int) (a0_3 : Int) (a0_4 : Int) : Option (Bool) := if a0_0 = 1 then ((gnomonlaw20_pair.f a0_1 a0_2).bind fun bt1 => ((dd_Form.f bt1.1 bt1.2).bind fun t2 => ((gnomonref20_DocForm.f k a0_1 a0_2).bind fun t3 => (some (t2 == t3))))) else (if a0_0 = 2 then ((gnomonlaw20_pair.f a0_1 a0_2).bind fun bt4 => ((dd_Value.f k bt4.1 bt4.2).bind fun bt5 => ((gnomonref20_DocValue.f k a0_1 a0_2).bind fun bt6 => ((gnomonref05_Same.f k bt5.1 bt5.2.1 bt5.2.2.1 bt6.1 bt6.2.1 bt6.2.2.1).bind fun t7 => (if t7 = true then (some (bt5.2.2.2 == bt6.2.2.2)) else (some false)))))) else (if a0_0 = 3 then ((gnomonlaw20_float.f a0_1).bind fun t8 => ((dd_Of.f t8).bind fun bt9 => ((gnomonlaw20_bits.f bt9.1 bt9.2).bind fun bt10 => ((gnomonref20_Finite.f a0_1).bind fun t11 => (if t11 = true then ((gnomonref20_Number.f k a0_1).bind fun bt12 => ((gnomonref20_Just.f k bt10.1 bt10.2 bt12.1 bt12.2).bind fun t13 => (if t13 = true then ((gnomonref20_Nought.f bt10.2).bind fun t14 => (some t14)) else (some false)))) else ((gnomonref20_Nought.f bt10.1).bind fun t15 => (if t15 = true then ((gnomonref20_Nought.f bt10.2).bind fun t16 => (some t16)) else (some false)))))))) else (if a0_0 = 4 then ((gnomonlaw20_pair.f a0_1 a0_2).bind fun bt17 => ((dd_Neg.f bt17.1 bt17.2).bind fun bt18 => ((gnomonlaw20_bits.f bt18.1 bt18.2).bind fun bt19 => ((gnomonref20_DocForm.f k a0_1 a0_2).bind fun t20 => (if t20 = true then ((gnomonref20_Sum.f k a0_1 a0_2).bind fun bt21 => ((gnomonref04_Flip.f k bt21.1 bt21.2).bind fun bt22 => ((gnomonref20_Just.f k bt19.1 bt19.2 bt22.1 bt22.2).bind fun t23 => (some t23)))) else (some true)))))) else ((gnomonlaw20_pair.f a0_1 a0_2).bind fun bt24 => ((gnomonlaw20_pair.f a0_3 a0_4).bind fun bt25 => ((dd_Cmp.f bt24.1 bt24.2 bt25.1 bt25.2).bind fun t26 => ((gnomonref20_DocCmp.f k a0_1 a0_2 a0_3 a0_4).bind fun t27 => (some (t26 == t27)))))))))
theorem gnomonlaw20_asks.mono : ∀ a0 a1 a2 a3 a4 k, LeO (gnomonlaw20_asks.f k a0 a1 a2 a3 a4) (gnomonlaw20_asks.f (k + 1) a0 a1 a2 a3 a4) := by
 intro a0 a1 a2 a3 a4 k
 unfold gnomonlaw20_asks.f
 repeat' first
  | (with_reducible exact dd_Value.mono _ _ _)
  | (with_reducible exact gnomonref04_Flip.mono _ _ _)
  | (with_reducible exact gnomonref05_Same.mono _ _ _ _ _ _ _)
  | (with_reducible exact gnomonref20_DocCmp.mono _ _ _ _ _)
  | (with_reducible exact gnomonref20_DocForm.mono _ _ _)
  | (with_reducible exact gnomonref20_DocValue.mono _ _ _)
  | (with_reducible exact gnomonref20_Just.mono _ _ _ _ _)
  | (with_reducible exact gnomonref20_Number.mono _ _)
  | (with_reducible exact gnomonref20_Sum.mono _ _ _)
  | (with_reducible exact LeO.refl _)
  | (with_reducible exact LeO.none _)
  | (with_reducible refine LeO.ite ?_ ?_)
  | (with_reducible refine LeO.bind ?_ (fun _ => ?_))
theorem gnomonlaw20_asks.c {k : Nat} {a0_0 : Int} {a0_1 : Int} {a0_2 : Int} {a0_3 : Int} {a0_4 : Int} {r : Bool} (h : gnomonlaw20_asks.f k a0_0 a0_1 a0_2 a0_3 a0_4 = some r) : Con Tryz.prog Gw 65 [.ag [.i .i64 a0_0, .i .u64 a0_1, .i .u64 a0_2, .i .u64 a0_3, .i .u64 a0_4]] (· = .s (.b r)) := by
 unfold gnomonlaw20_asks.f at h
 rcases ite_e h with ⟨c1, h⟩ | ⟨c1, h⟩
 ·obtain ⟨bt1, A2, h⟩ := bnd h
  obtain ⟨t2, A3, h⟩ := bnd h
  obtain ⟨t3, A4, h⟩ := bnd h
  have h := si h; subst h
  exact pth Tryz.func65 [.br true, .r (.ag [.fl .f64 bt1.1, .fl .f64 bt1.2]), .r (.s (.b t2)), .r (.s (.b t3))] (fun e => ai (q1 c1) (ai (gnomonlaw20_pair.c A2) (ai (dd_Form.c A3) (ai (gnomonref20_DocForm.c A4) e)))) (by kernel_rfl)
 ·rcases ite_e h with ⟨c5, h⟩ | ⟨c5, h⟩
  ·obtain ⟨bt4, A6, h⟩ := bnd h
   obtain ⟨bt5, A7, h⟩ := bnd h
   obtain ⟨bt6, A8, h⟩ := bnd h
   obtain ⟨t7, A9, h⟩ := bnd h
   rcases ite_e h with ⟨c10, h⟩ | ⟨c10, h⟩
   ·have h := si h; subst h
    exact pth Tryz.func65 [.br false, .br true, .r (.ag [.fl .f64 bt4.1, .fl .f64 bt4.2]), .r (.tu [.ag [.b bt5.1, .sl .u64 bt5.2.1, .i .i64 bt5.2.2.1], .s (.i .i64 bt5.2.2.2)]), .r (.tu [.ag [.b bt6.1, .sl .u64 bt6.2.1, .i .i64 bt6.2.2.1], .s (.i .i64 bt6.2.2.2)]), .r (.s (.b t7)), .br true, .br true, .br true, .br true] (fun e => ai (q0 c1) (ai (q1 c5) (ai (gnomonlaw20_pair.c A6) (ai (dd_Value.c A7) (ai (gnomonref20_DocValue.c A8) (ai (gnomonref05_Same.c A9) (ai c10 (ai c10 (ai c10 (ai c10 e)))))))))) (by kernel_rfl)
   ·have h := si h; subst h
    exact pth Tryz.func65 [.br false, .br true, .r (.ag [.fl .f64 bt4.1, .fl .f64 bt4.2]), .r (.tu [.ag [.b bt5.1, .sl .u64 bt5.2.1, .i .i64 bt5.2.2.1], .s (.i .i64 bt5.2.2.2)]), .r (.tu [.ag [.b bt6.1, .sl .u64 bt6.2.1, .i .i64 bt6.2.2.1], .s (.i .i64 bt6.2.2.2)]), .r (.s (.b t7)), .br false, .br false, .br false, .br false] (fun e => ai (q0 c1) (ai (q1 c5) (ai (gnomonlaw20_pair.c A6) (ai (dd_Value.c A7) (ai (gnomonref20_DocValue.c A8) (ai (gnomonref05_Same.c A9) (ai (z0 c10) (ai (z0 c10) (ai (z0 c10) (ai (z0 c10) e)))))))))) (by kernel_rfl)
  ·rcases ite_e h with ⟨c11, h⟩ | ⟨c11, h⟩
   ·obtain ⟨t8, A12, h⟩ := bnd h
    obtain ⟨bt9, A13, h⟩ := bnd h
    obtain ⟨bt10, A14, h⟩ := bnd h
    obtain ⟨t11, A15, h⟩ := bnd h
    rcases ite_e h with ⟨c16, h⟩ | ⟨c16, h⟩
    ·obtain ⟨bt12, A17, h⟩ := bnd h
     obtain ⟨t13, A18, h⟩ := bnd h
     rcases ite_e h with ⟨c19, h⟩ | ⟨c19, h⟩
     ·obtain ⟨t14, A20, h⟩ := bnd h
      have h := si h; subst h
      exact pth Tryz.func65 [.br false, .br false, .br true, .r (.s (.fl .f64 t8)), .r (.ag [.fl .f64 bt9.1, .fl .f64 bt9.2]), .r (.ag [.i .u64 bt10.1, .i .u64 bt10.2]), .r (.s (.b t11)), .br false, .r (.ag [.b bt12.1, .sl .u32 bt12.2]), .r (.s (.b t13)), .br true, .br true, .br true, .r (.s (.b t14)), .br true] (fun e => ai (q0 c1) (ai (q0 c5) (ai (q1 c11) (ai (gnomonlaw20_float.c A12) (ai (dd_Of.c A13) (ai (gnomonlaw20_bits.c A14) (ai (gnomonref20_Finite.c A15) (ai (nt1 c16) (ai (gnomonref20_Number.c A17) (ai (gnomonref20_Just.c A18) (ai c19 (ai c19 (ai c19 (ai (gnomonref20_Nought.c A20) (ai c19 e))))))))))))))) (by kernel_rfl)
     ·have h := si h; subst h
      exact pth Tryz.func65 [.br false, .br false, .br true, .r (.s (.fl .f64 t8)), .r (.ag [.fl .f64 bt9.1, .fl .f64 bt9.2]), .r (.ag [.i .u64 bt10.1, .i .u64 bt10.2]), .r (.s (.b t11)), .br false, .r (.ag [.b bt12.1, .sl .u32 bt12.2]), .r (.s (.b t13)), .br false, .br false, .br false, .br false] (fun e => ai (q0 c1) (ai (q0 c5) (ai (q1 c11) (ai (gnomonlaw20_float.c A12) (ai (dd_Of.c A13) (ai (gnomonlaw20_bits.c A14) (ai (gnomonref20_Finite.c A15) (ai (nt1 c16) (ai (gnomonref20_Number.c A17) (ai (gnomonref20_Just.c A18) (ai (z0 c19) (ai (z0 c19) (ai (z0 c19) (ai (z0 c19) e)))))))))))))) (by kernel_rfl)
    ·obtain ⟨t15, A21, h⟩ := bnd h
     rcases ite_e h with ⟨c22, h⟩ | ⟨c22, h⟩
     ·obtain ⟨t16, A23, h⟩ := bnd h
      have h := si h; subst h
      exact pth Tryz.func65 [.br false, .br false, .br true, .r (.s (.fl .f64 t8)), .r (.ag [.fl .f64 bt9.1, .fl .f64 bt9.2]), .r (.ag [.i .u64 bt10.1, .i .u64 bt10.2]), .r (.s (.b t11)), .br true, .r (.s (.b t15)), .br true, .br true, .br true, .r (.s (.b t16)), .br true] (fun e => ai (q0 c1) (ai (q0 c5) (ai (q1 c11) (ai (gnomonlaw20_float.c A12) (ai (dd_Of.c A13) (ai (gnomonlaw20_bits.c A14) (ai (gnomonref20_Finite.c A15) (ai (nt0 (z0 c16)) (ai (gnomonref20_Nought.c A21) (ai c22 (ai c22 (ai c22 (ai (gnomonref20_Nought.c A23) (ai c22 e)))))))))))))) (by kernel_rfl)
     ·have h := si h; subst h
      exact pth Tryz.func65 [.br false, .br false, .br true, .r (.s (.fl .f64 t8)), .r (.ag [.fl .f64 bt9.1, .fl .f64 bt9.2]), .r (.ag [.i .u64 bt10.1, .i .u64 bt10.2]), .r (.s (.b t11)), .br true, .r (.s (.b t15)), .br false, .br false, .br false, .br false] (fun e => ai (q0 c1) (ai (q0 c5) (ai (q1 c11) (ai (gnomonlaw20_float.c A12) (ai (dd_Of.c A13) (ai (gnomonlaw20_bits.c A14) (ai (gnomonref20_Finite.c A15) (ai (nt0 (z0 c16)) (ai (gnomonref20_Nought.c A21) (ai (z0 c22) (ai (z0 c22) (ai (z0 c22) (ai (z0 c22) e))))))))))))) (by kernel_rfl)
   ·rcases ite_e h with ⟨c24, h⟩ | ⟨c24, h⟩
    ·obtain ⟨bt17, A25, h⟩ := bnd h
     obtain ⟨bt18, A26, h⟩ := bnd h
     obtain ⟨bt19, A27, h⟩ := bnd h
     obtain ⟨t20, A28, h⟩ := bnd h
     rcases ite_e h with ⟨c29, h⟩ | ⟨c29, h⟩
     ·obtain ⟨bt21, A30, h⟩ := bnd h
      obtain ⟨bt22, A31, h⟩ := bnd h
      obtain ⟨t23, A32, h⟩ := bnd h
      have h := si h; subst h
      exact pth Tryz.func65 [.br false, .br false, .br false, .br true, .r (.ag [.fl .f64 bt17.1, .fl .f64 bt17.2]), .r (.ag [.fl .f64 bt18.1, .fl .f64 bt18.2]), .r (.ag [.i .u64 bt19.1, .i .u64 bt19.2]), .r (.s (.b t20)), .br false, .br false, .br false, .br false, .r (.ag [.b bt21.1, .sl .u32 bt21.2]), .br false, .r (.ag [.b bt22.1, .sl .u32 bt22.2]), .br false, .r (.s (.b t23)), .br false] (fun e => ai (q0 c1) (ai (q0 c5) (ai (q0 c11) (ai (q1 c24) (ai (gnomonlaw20_pair.c A25) (ai (dd_Neg.c A26) (ai (gnomonlaw20_bits.c A27) (ai (gnomonref20_DocForm.c A28) (ai (nt1 c29) (ai (nt1 c29) (ai (nt1 c29) (ai (nt1 c29) (ai (gnomonref20_Sum.c A30) (ai (nt1 c29) (ai (gnomonref04_Flip.c A31) (ai (nt1 c29) (ai (gnomonref20_Just.c A32) (ai (nt1 c29) e)))))))))))))))))) (by kernel_rfl)
     ·have h := si h; subst h
      exact pth Tryz.func65 [.br false, .br false, .br false, .br true, .r (.ag [.fl .f64 bt17.1, .fl .f64 bt17.2]), .r (.ag [.fl .f64 bt18.1, .fl .f64 bt18.2]), .r (.ag [.i .u64 bt19.1, .i .u64 bt19.2]), .r (.s (.b t20)), .br true, .br true, .br true, .br true, .br true, .br true, .br true] (fun e => ai (q0 c1) (ai (q0 c5) (ai (q0 c11) (ai (q1 c24) (ai (gnomonlaw20_pair.c A25) (ai (dd_Neg.c A26) (ai (gnomonlaw20_bits.c A27) (ai (gnomonref20_DocForm.c A28) (ai (nt0 (z0 c29)) (ai (nt0 (z0 c29)) (ai (nt0 (z0 c29)) (ai (nt0 (z0 c29)) (ai (nt0 (z0 c29)) (ai (nt0 (z0 c29)) (ai (nt0 (z0 c29)) e))))))))))))))) (by kernel_rfl)
    ·obtain ⟨bt24, A33, h⟩ := bnd h
     obtain ⟨bt25, A34, h⟩ := bnd h
     obtain ⟨t26, A35, h⟩ := bnd h
     obtain ⟨t27, A36, h⟩ := bnd h
     have h := si h; subst h
     exact pth Tryz.func65 [.br false, .br false, .br false, .br false, .r (.ag [.fl .f64 bt24.1, .fl .f64 bt24.2]), .r (.ag [.fl .f64 bt25.1, .fl .f64 bt25.2]), .r (.s (.i .i64 t26)), .r (.s (.i .i64 t27))] (fun e => ai (q0 c1) (ai (q0 c5) (ai (q0 c11) (ai (q0 c24) (ai (gnomonlaw20_pair.c A33) (ai (gnomonlaw20_pair.c A34) (ai (dd_Cmp.c A35) (ai (gnomonref20_DocCmp.c A36) e)))))))) (by kernel_rfl)
def gnomonlaw20_playsA.f (k : Nat) (a0_0 : Int) (a0_1 : Int) (a0_2 : Int) (a0_3 : Int) (a0_4 : Int) : Option (Bool) := if a0_0 ≥ 1 then (if a0_0 ≤ 5 then ((gnomonlaw20_asks.f k a0_0 a0_1 a0_2 a0_3 a0_4).bind fun t1 => (some t1)) else (if a0_0 < 6 then (some true) else (if a0_0 > 12 then (some true) else (none)))) else (if a0_0 < 6 then (some true) else (if a0_0 > 12 then (some true) else (none)))
theorem gnomonlaw20_playsA.mono : ∀ a0 a1 a2 a3 a4 k, LeO (gnomonlaw20_playsA.f k a0 a1 a2 a3 a4) (gnomonlaw20_playsA.f (k + 1) a0 a1 a2 a3 a4) := by
 intro a0 a1 a2 a3 a4 k
 unfold gnomonlaw20_playsA.f
 repeat' first
  | (with_reducible exact gnomonlaw20_asks.mono _ _ _ _ _ _)
  | (with_reducible exact LeO.refl _)
  | (with_reducible exact LeO.none _)
  | (with_reducible refine LeO.ite ?_ ?_)
  | (with_reducible refine LeO.bind ?_ (fun _ => ?_))
theorem gnomonlaw20_playsA.c {k : Nat} {a0_0 : Int} {a0_1 : Int} {a0_2 : Int} {a0_3 : Int} {a0_4 : Int} {r : Bool} (h : gnomonlaw20_playsA.f k a0_0 a0_1 a0_2 a0_3 a0_4 = some r) : Con Tryz.prog Gw 35 [.ag [.i .i64 a0_0, .i .u64 a0_1, .i .u64 a0_2, .i .u64 a0_3, .i .u64 a0_4]] (· = .s (.b r)) := by
 unfold gnomonlaw20_playsA.f at h
 rcases ite_e h with ⟨c1, h⟩ | ⟨c1, h⟩
 ·rcases ite_e h with ⟨c2, h⟩ | ⟨c2, h⟩
  ·obtain ⟨t1, A3, h⟩ := bnd h
   have h := si h; subst h
   exact pth Tryz.func35 [.br true, .br true, .br true, .br true, .br true, .r (.s (.b t1))] (fun e => ai (d1 c1) (ai (d1 c1) (ai (d1 c1) (ai (d1 c1) (ai (d1 c2) (ai (gnomonlaw20_asks.c A3) e)))))) (by kernel_rfl)
  ·rcases ite_e h with ⟨c4, h⟩ | ⟨c4, h⟩
   ·have h := si h; subst h
    exact pth Tryz.func35 [.br true, .br true, .br true, .br true, .br false, .br true, .br true, .br true, .br true, .br true, .br true, .br true] (fun e => ai (d1 c1) (ai (d1 c1) (ai (d1 c1) (ai (d1 c1) (ai (d0 c2) (ai (d1 c4) (ai (d1 c4) (ai (d1 c4) (ai (d1 c4) (ai tt (ai tt (ai tt e)))))))))))) (by kernel_rfl)
   ·rcases ite_e h with ⟨c5, h⟩ | ⟨c5, h⟩
    ·have h := si h; subst h
     exact pth Tryz.func35 [.br true, .br true, .br true, .br true, .br false, .br false, .br false, .br false, .br false, .br true, .br true, .br true] (fun e => ai (d1 c1) (ai (d1 c1) (ai (d1 c1) (ai (d1 c1) (ai (d0 c2) (ai (d0 c4) (ai (d0 c4) (ai (d0 c4) (ai (d0 c4) (ai (d1 c5) (ai (d1 c5) (ai (d1 c5) e)))))))))))) (by kernel_rfl)
    ·cases h
 ·rcases ite_e h with ⟨c6, h⟩ | ⟨c6, h⟩
  ·have h := si h; subst h
   exact pth Tryz.func35 [.br false, .br false, .br false, .br false, .br false, .br true, .br true, .br true, .br true, .br true, .br true, .br true] (fun e => ai (d0 c1) (ai (d0 c1) (ai (d0 c1) (ai (d0 c1) (ai ff (ai (d1 c6) (ai (d1 c6) (ai (d1 c6) (ai (d1 c6) (ai tt (ai tt (ai tt e)))))))))))) (by kernel_rfl)
  ·rcases ite_e h with ⟨c7, h⟩ | ⟨c7, h⟩
   ·have h := si h; subst h
    exact pth Tryz.func35 [.br false, .br false, .br false, .br false, .br false, .br false, .br false, .br false, .br false, .br true, .br true, .br true] (fun e => ai (d0 c1) (ai (d0 c1) (ai (d0 c1) (ai (d0 c1) (ai ff (ai (d0 c6) (ai (d0 c6) (ai (d0 c6) (ai (d0 c6) (ai (d1 c7) (ai (d1 c7) (ai (d1 c7) e)))))))))))) (by kernel_rfl)
   ·cases h
end Go.Proofs.YtapikmfckpgjoaaGreatDoor.PLib
