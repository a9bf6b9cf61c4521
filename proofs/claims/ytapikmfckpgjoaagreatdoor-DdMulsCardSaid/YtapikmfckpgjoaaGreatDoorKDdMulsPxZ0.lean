/- Functions of the program as plain Lean functions (definitions as the print's), and that the machine's calls do what they do (contracts 'X.c', by Px). Condition: math/bits' table is laid. -/
import Derived.Test.YtapikmfckpgjoaaGreatDoorKDdMulsRp5
import Derived.Test.YtapikmfckpgjoaaGreatDoorKDdMulsPxL1
import Derived.Test.YtapikmfckpgjoaaGreatDoorKDdMulsPxL2
import Derived.Test.YtapikmfckpgjoaaGreatDoorKDdMulsPxRef
set_option linter.unusedVariables false
namespace Go.Proofs.YtapikmfckpgjoaaGreatDoor.PLib
open Go Go.RowKit Go.Proofs.YtapikmfckpgjoaaGreatDoorW.PrintWords Go.Proofs.YtapikmfckpgjoaaGreatDoorW.PrintMore Go.Proofs.YtapikmfckpgjoaaGreatDoor.Given Go.Proofs.YtapikmfckpgjoaaGreatDoor.Px Go.Proofs.YtapikmfckpgjoaaGreatDoor.PRef
def gnomonref04_Mk.f (k : Nat) (a0 : Bool) (l1 : List Int) : Option (Bool × List Int) := (gnomonref01_Norm.f k l1).bind fun t167 => (if a0 = true then (some (decide ((t167.length : Int) > 0), t167)) else (some (false, t167)))
theorem gnomonref04_Mk.mono : ∀ a0 a1 k, LeO (gnomonref04_Mk.f k a0 a1) (gnomonref04_Mk.f (k + 1) a0 a1) := by
 intro a0 a1 k
 unfold gnomonref04_Mk.f
 repeat' first
   | (with_reducible exact gnomonref01_Norm.mono _ _)
   | (with_reducible exact LeO.refl _)
   | (with_reducible exact LeO.none _)
   | (with_reducible refine LeO.ite ?_ ?_)
   | (with_reducible refine LeO.bind ?_ (fun _ => ?_))
   | exact gnomonref01_Norm.mono _ _
   | exact LeO.none _
   | refine LeO.ite ?_ ?_
   | refine LeO.bind ?_ (fun _ => ?_)
theorem gnomonref04_Mk.c {k : Nat} {a0 : Bool} {l1 : List Int} {r : Bool × List Int} (h : gnomonref04_Mk.f k a0 l1 = some r) : Con Tryz.prog Gw 47 [.s (.b a0), .s (.sl .u32 l1)] (· = .ag [.b r.1, .sl .u32 r.2]) := by
 unfold gnomonref04_Mk.f at h
 obtain ⟨t167, A1, h⟩ := bnd h
 rcases ite_e h with ⟨c2, h⟩ | ⟨c2, h⟩
 ·have h := si h; subst h
  exact pth Tryz.func47 [.r (.s (.sl .u32 t167)), .br true, .br true, .br true, .br true] (fun e => ai (gnomonref01_Norm.c A1) (ai c2 (ai c2 (ai c2 (ai c2 e))))) (by kernel_rfl)
 ·have h := si h; subst h
  exact pth Tryz.func47 [.r (.s (.sl .u32 t167)), .br false, .br false, .br false, .br false] (fun e => ai (gnomonref01_Norm.c A1) (ai (z0 c2) (ai (z0 c2) (ai (z0 c2) (ai (z0 c2) e))))) (by kernel_rfl)
def gnomonref04_Of.f (k : Nat) (a0 : Int) : Option (Bool × List Int) := if a0 < 0 then ((gnomonref01_Word.f k (IntKind.u64.wrap (wrap64 (-(wrap64 (a0 + 1)))))).bind fun t236 => ((gnomonref01_Word.f k 1).bind fun t239 => ((gnomonref01_Add.f k t236 t239).bind fun t242 => ((gnomonref04_Mk.f k true t242).bind fun bt245 => (some (bt245.1, bt245.2)))))) else ((gnomonref01_Word.f k (IntKind.u64.wrap (a0))).bind fun t249 => ((gnomonref04_Mk.f k false t249).bind fun bt252 => (some (bt252.1, bt252.2))))
theorem gnomonref04_Of.mono : ∀ a0 k, LeO (gnomonref04_Of.f k a0) (gnomonref04_Of.f (k + 1) a0) := by
 intro a0 k
 unfold gnomonref04_Of.f
 repeat' first
   | (with_reducible exact gnomonref01_Add.mono _ _ _)
   | (with_reducible exact gnomonref01_Word.mono _ _)
   | (with_reducible exact gnomonref04_Mk.mono _ _ _)
   | (with_reducible exact LeO.refl _)
   | (with_reducible exact LeO.none _)
   | (with_reducible refine LeO.ite ?_ ?_)
   | (with_reducible refine LeO.bind ?_ (fun _ => ?_))
   | exact gnomonref01_Add.mono _ _ _
   | exact gnomonref01_Word.mono _ _
   | exact gnomonref04_Mk.mono _ _ _
   | exact LeO.none _
   | refine LeO.ite ?_ ?_
   | refine LeO.bind ?_ (fun _ => ?_)
theorem gnomonref04_Of.c {k : Nat} {a0 : Int} {r : Bool × List Int} (h : gnomonref04_Of.f k a0 = some r) : Con Tryz.prog Gw 17 [.s (.i .i64 a0)] (· = .ag [.b r.1, .sl .u32 r.2]) := by
 unfold gnomonref04_Of.f at h
 rcases ite_e h with ⟨c1, h⟩ | ⟨c1, h⟩
 ·obtain ⟨t236, A2, h⟩ := bnd h
  obtain ⟨t239, A3, h⟩ := bnd h
  obtain ⟨t242, A4, h⟩ := bnd h
  obtain ⟨bt245, A5, h⟩ := bnd h
  have h := si h; subst h
  exact pth Tryz.func17 [.br true, .r (.s (.sl .u32 t236)), .r (.s (.sl .u32 t239)), .r (.s (.sl .u32 t242)), .r (.ag [.b bt245.1, .sl .u32 bt245.2])] (fun e => ai (d1 c1) (ai (gnomonref01_Word.c A2) (ai (gnomonref01_Word.c A3) (ai (gnomonref01_Add.c A4) (ai (gnomonref04_Mk.c A5) e))))) (by kernel_rfl)
 ·obtain ⟨t249, A6, h⟩ := bnd h
  obtain ⟨bt252, A7, h⟩ := bnd h
  have h := si h; subst h
  exact pth Tryz.func17 [.br false, .r (.s (.sl .u32 t249)), .r (.ag [.b bt252.1, .sl .u32 bt252.2])] (fun e => ai (d0 c1) (ai (gnomonref01_Word.c A6) (ai (gnomonref04_Mk.c A7) e))) (by kernel_rfl)
def gnomonref07_Parts.f (a0_0 : Int) (a0_1 : Int) (a0_2 : Int) (a0_3 : Int) (a0_4 : Int) (a0_5 : Int) (a1 : Int) : Option (Int × Int) := if 0 ≤ wrap64 (a0_1 - 1) then (if shl .u64 1 (wrap64 (a0_1 - 1)) = 0 then (none) else (if (IntKind.u64.wrap (Int.tdiv a1 (shl .u64 1 (wrap64 (a0_1 - 1))))) = 0 then (some (Int.tmod a1 (shl .u64 1 (wrap64 (a0_1 - 1))), a0_2)) else (some (IntKind.u64.wrap ((shl .u64 1 (wrap64 (a0_1 - 1))) + (Int.tmod a1 (shl .u64 1 (wrap64 (a0_1 - 1))))), wrap64 ((wrap64 (a0_2 + (wrap64 (IntKind.u64.wrap (Int.tdiv a1 (shl .u64 1 (wrap64 (a0_1 - 1)))))))) - 1))))) else (none)
theorem gnomonref07_Parts.c {a0_0 : Int} {a0_1 : Int} {a0_2 : Int} {a0_3 : Int} {a0_4 : Int} {a0_5 : Int} {a1 : Int} {r : Int × Int} (h : gnomonref07_Parts.f a0_0 a0_1 a0_2 a0_3 a0_4 a0_5 a1 = some r) : Con Tryz.prog Gw 122 [.ag [.i .u64 a0_0, .i .i64 a0_1, .i .i64 a0_2, .i .i64 a0_3, .i .u64 a0_4, .i .u64 a0_5], .s (.i .u64 a1)] (· = .tu [.s (.i .u64 r.1), .s (.i .i64 r.2)]) := by
 unfold gnomonref07_Parts.f at h
 rcases ite_e h with ⟨c1, h⟩ | ⟨c1, h⟩
 ·rcases ite_e h with ⟨c2, h⟩ | ⟨c2, h⟩
  ·cases h
  ·rcases ite_e h with ⟨c3, h⟩ | ⟨c3, h⟩
   ·have h := si h; subst h
    exact pth Tryz.func122 [.br true] (fun e => ai c1 (ai c2 (ai c2 (ai (q1 c3) e)))) (by kernel_rfl)
   ·have h := si h; subst h
    exact pth Tryz.func122 [.br false] (fun e => ai c1 (ai c2 (ai c2 (ai (q0 c3) e)))) (by kernel_rfl)
 ·cases h
def gnomonref08_order.f (k : Nat) (l0 : List Int) (a1 : Int) (l2 : List Int) (a3 : Int) : Option (Int) := (gnomonref01_Bits.f k l0).bind fun t1 => ((gnomonref01_Bits.f k l2).bind fun t2 => (if wrap64 (t1 + a1) < wrap64 (t2 + a3) then (some (-1)) else (if wrap64 (t1 + a1) > wrap64 (t2 + a3) then (some 1) else ((gnomonref01_Shl.f k l0 (wrap64 (a1 - (mn a1 a3)))).bind fun t3 => ((gnomonref01_Shl.f k l2 (wrap64 (a3 - (mn a1 a3)))).bind fun t4 => ((gnomonref01_Cmp.f k t3 t4).bind fun t5 => (some t5)))))))
theorem gnomonref08_order.mono : ∀ a0 a1 a2 a3 k, LeO (gnomonref08_order.f k a0 a1 a2 a3) (gnomonref08_order.f (k + 1) a0 a1 a2 a3) := by
 intro a0 a1 a2 a3 k
 unfold gnomonref08_order.f
 repeat' first
  | (with_reducible exact gnomonref01_Bits.mono _ _)
  | (with_reducible exact gnomonref01_Cmp.mono _ _ _)
  | (with_reducible exact gnomonref01_Shl.mono _ _ _)
  | (with_reducible exact LeO.refl _)
  | (with_reducible exact LeO.none _)
  | (with_reducible refine LeO.ite ?_ ?_)
  | (with_reducible refine LeO.bind ?_ (fun _ => ?_))
theorem gnomonref08_order.c {k : Nat} {l0 : List Int} {a1 : Int} {l2 : List Int} {a3 : Int} {r : Int} (h : gnomonref08_order.f k l0 a1 l2 a3 = some r) : Con Tryz.prog Gw 134 [.s (.sl .u32 l0), .s (.i .i64 a1), .s (.sl .u32 l2), .s (.i .i64 a3)] (· = .s (.i .i64 r)) := by
 unfold gnomonref08_order.f at h
 obtain ⟨t1, A1, h⟩ := bnd h
 obtain ⟨t2, A2, h⟩ := bnd h
 rcases ite_e h with ⟨c3, h⟩ | ⟨c3, h⟩
 ·have h := si h; subst h
  exact pth Tryz.func134 [.r (.s (.i .i64 t1)), .r (.s (.i .i64 t2)), .br true] (fun e => ai (gnomonref01_Bits.c A1) (ai (gnomonref01_Bits.c A2) (ai (d1 c3) e))) (by kernel_rfl)
 ·rcases ite_e h with ⟨c4, h⟩ | ⟨c4, h⟩
  ·have h := si h; subst h
   exact pth Tryz.func134 [.r (.s (.i .i64 t1)), .r (.s (.i .i64 t2)), .br false, .br true] (fun e => ai (gnomonref01_Bits.c A1) (ai (gnomonref01_Bits.c A2) (ai (d0 c3) (ai (d1 c4) e)))) (by kernel_rfl)
  ·obtain ⟨t3, A5, h⟩ := bnd h
   obtain ⟨t4, A6, h⟩ := bnd h
   obtain ⟨t5, A7, h⟩ := bnd h
   have h := si h; subst h
   exact pth Tryz.func134 [.r (.s (.i .i64 t1)), .r (.s (.i .i64 t2)), .br false, .br false, .r (.s (.sl .u32 t3)), .r (.s (.sl .u32 t4)), .r (.s (.i .i64 t5))] (fun e => ai (gnomonref01_Bits.c A1) (ai (gnomonref01_Bits.c A2) (ai (d0 c3) (ai (d0 c4) (ai (gnomonref01_Shl.c A5) (ai (gnomonref01_Shl.c A6) (ai (gnomonref01_Cmp.c A7) e))))))) (by kernel_rfl)
def gnomonref08_Hold.f (k : Nat) (l0_0 : List Int) (l0_1 : List Int) (a0_2 : Int) (a0_3 : Bool) (l1 : List Int) (a2 : Int) : Option (Int) := if (l1.length : Int) = 0 then (some (-1)) else (if a0_3 = true then ((gnomonref01_Mul.f k l1 l1).bind fun t1 => ((gnomonref01_Mul.f k t1 l0_1).bind fun t2 => ((gnomonref08_order.f k t2 (wrap64 (2 * a2)) l0_0 a0_2).bind fun t3 => (some t3)))) else ((gnomonref01_Mul.f k l1 l0_1).bind fun t4 => ((gnomonref08_order.f k t4 a2 l0_0 a0_2).bind fun t5 => (some t5))))
theorem gnomonref08_Hold.mono : ∀ a0 a1 a2 a3 a4 a5 k, LeO (gnomonref08_Hold.f k a0 a1 a2 a3 a4 a5) (gnomonref08_Hold.f (k + 1) a0 a1 a2 a3 a4 a5) := by
 intro a0 a1 a2 a3 a4 a5 k
 unfold gnomonref08_Hold.f
 repeat' first
  | (with_reducible exact gnomonref01_Mul.mono _ _ _)
  | (with_reducible exact gnomonref08_order.mono _ _ _ _ _)
  | (with_reducible exact LeO.refl _)
  | (with_reducible exact LeO.none _)
  | (with_reducible refine LeO.ite ?_ ?_)
  | (with_reducible refine LeO.bind ?_ (fun _ => ?_))
theorem gnomonref08_Hold.c {k : Nat} {l0_0 : List Int} {l0_1 : List Int} {a0_2 : Int} {a0_3 : Bool} {l1 : List Int} {a2 : Int} {r : Int} (h : gnomonref08_Hold.f k l0_0 l0_1 a0_2 a0_3 l1 a2 = some r) : Con Tryz.prog Gw 123 [.ag [.sl .u32 l0_0, .sl .u32 l0_1, .i .i64 a0_2, .b a0_3], .s (.sl .u32 l1), .s (.i .i64 a2)] (· = .s (.i .i64 r)) := by
 unfold gnomonref08_Hold.f at h
 rcases ite_e h with ⟨c1, h⟩ | ⟨c1, h⟩
 ·have h := si h; subst h
  exact pth Tryz.func123 [.br true] (fun e => ai (q1 c1) e) (by kernel_rfl)
 ·rcases ite_e h with ⟨c2, h⟩ | ⟨c2, h⟩
  ·obtain ⟨t1, A3, h⟩ := bnd h
   obtain ⟨t2, A4, h⟩ := bnd h
   obtain ⟨t3, A5, h⟩ := bnd h
   have h := si h; subst h
   exact pth Tryz.func123 [.br false, .br true, .r (.s (.sl .u32 t1)), .r (.s (.sl .u32 t2)), .r (.s (.i .i64 t3))] (fun e => ai (q0 c1) (ai c2 (ai (gnomonref01_Mul.c A3) (ai (gnomonref01_Mul.c A4) (ai (gnomonref08_order.c A5) e))))) (by kernel_rfl)
  ·obtain ⟨t4, A6, h⟩ := bnd h
   obtain ⟨t5, A7, h⟩ := bnd h
   have h := si h; subst h
   exact pth Tryz.func123 [.br false, .br false, .r (.s (.sl .u32 t4)), .r (.s (.i .i64 t5))] (fun e => ai (q0 c1) (ai (z0 c2) (ai (gnomonref01_Mul.c A6) (ai (gnomonref08_order.c A7) e)))) (by kernel_rfl)
def gnomonref08_Size.l0 : Nat → Int → Int → Int → Int → Int → Int → Int → Int → List Int → List Int → Int → Bool → Option (Int)
 | 0, _, _, _, _, _, _, _, _, _, _, _, _ => none
 | k + 1, x5, x6, x1000, x1001, x1002, x1003, x1004, x1005, x2000, x2001, x2002, x2003 => if IntKind.u64.wrap (x6 - x5) > 1 then ((gnomonref07_Parts.f x1000 x1001 x1002 x1003 x1004 x1005 (IntKind.u64.wrap (x5 + (IntKind.u64.wrap (Int.tdiv (IntKind.u64.wrap (x6 - x5)) 2))))).bind fun bt1 => ((gnomonref01_Word.f k bt1.1).bind fun t2 => ((gnomonref08_Hold.f k x2000 x2001 x2002 x2003 t2 bt1.2).bind fun t3 => (if t3 ≤ 0 then (gnomonref08_Size.l0 k (IntKind.u64.wrap (x5 + (IntKind.u64.wrap (Int.tdiv (IntKind.u64.wrap (x6 - x5)) 2)))) x6 x1000 x1001 x1002 x1003 x1004 x1005 x2000 x2001 x2002 x2003) else (gnomonref08_Size.l0 k x5 (IntKind.u64.wrap (x5 + (IntKind.u64.wrap (Int.tdiv (IntKind.u64.wrap (x6 - x5)) 2)))) x1000 x1001 x1002 x1003 x1004 x1005 x2000 x2001 x2002 x2003))))) else (if x5 = x1004 then (some x5) else ((gnomonref07_Parts.f x1000 x1001 x1002 x1003 x1004 x1005 x5).bind fun bt4 => ((gnomonref01_Word.f k bt4.1).bind fun t5 => ((gnomonref01_Shl.f k t5 1).bind fun t6 => ((gnomonref01_Word.f k 1).bind fun t7 => ((gnomonref01_Add.f k t6 t7).bind fun t8 => ((gnomonref08_Hold.f k x2000 x2001 x2002 x2003 t8 (wrap64 (bt4.2 - 1))).bind fun t9 => (if t9 < 0 then (some (IntKind.u64.wrap (x5 + 1))) else (if t9 = 0 then (if Int.tmod x5 2 = 1 then (some (IntKind.u64.wrap (x5 + 1))) else (some x5)) else (some x5))))))))))
def gnomonref08_Size.f (k : Nat) (a0_0 : Int) (a0_1 : Int) (a0_2 : Int) (a0_3 : Int) (a0_4 : Int) (a0_5 : Int) (l1_0 : List Int) (l1_1 : List Int) (a1_2 : Int) (a1_3 : Bool) : Option (Int) := gnomonref08_Size.l0 k 0 (IntKind.u64.wrap (a0_4 + 1)) a0_0 a0_1 a0_2 a0_3 a0_4 a0_5 l1_0 l1_1 a1_2 a1_3
theorem gnomonref08_Size.mono_l : ∀ k, ∀ y0 y1 y2 y3 y4 y5 y6 y7 y8 y9 y10 y11, LeO (gnomonref08_Size.l0 k y0 y1 y2 y3 y4 y5 y6 y7 y8 y9 y10 y11) (gnomonref08_Size.l0 (k + 1) y0 y1 y2 y3 y4 y5 y6 y7 y8 y9 y10 y11)
 | 0 => fun _ _ _ _ _ _ _ _ _ _ _ _ r h => by simp [gnomonref08_Size.l0] at h
 | k + 1 => by
  have ih0 := gnomonref08_Size.mono_l k
  intro y0 y1 y2 y3 y4 y5 y6 y7 y8 y9 y10 y11
  unfold gnomonref08_Size.l0
  repeat' first
   | (with_reducible exact ih0 _ _ _ _ _ _ _ _ _ _ _ _)
   | (with_reducible exact gnomonref01_Word.mono _ _)
   | (with_reducible exact gnomonref08_Hold.mono _ _ _ _ _ _ _)
   | (with_reducible exact gnomonref01_Shl.mono _ _ _)
   | (with_reducible exact gnomonref01_Add.mono _ _ _)
   | (with_reducible exact LeO.refl _)
   | (with_reducible exact LeO.none _)
   | (with_reducible refine LeO.ite ?_ ?_)
   | (with_reducible refine LeO.bind ?_ (fun _ => ?_))
theorem gnomonref08_Size.mono : ∀ y0 y1 y2 y3 y4 y5 y6 y7 y8 y9 k, LeO (gnomonref08_Size.f k y0 y1 y2 y3 y4 y5 y6 y7 y8 y9) (gnomonref08_Size.f (k + 1) y0 y1 y2 y3 y4 y5 y6 y7 y8 y9) := by
 intro y0 y1 y2 y3 y4 y5 y6 y7 y8 y9 k
 unfold gnomonref08_Size.f
 exact gnomonref08_Size.mono_l k _ _ _ _ _ _ _ _ _ _ _ _
theorem gnomonref08_Size.jc : ∀ k : Nat, (∀ (x5 : Int) (x6 : Int) (x1000 : Int) (x1001 : Int) (x1002 : Int) (x1003 : Int) (x1004 : Int) (x1005 : Int) (x2000 : List Int) (x2001 : List Int) (x2002 : Int) (x2003 : Bool) (r : Int), gnomonref08_Size.l0 k x5 x6 x1000 x1001 x1002 x1003 x1004 x1005 x2000 x2001 x2002 x2003 = some r → Fin Tryz.prog Gw 99 (nav (bodyOf Tryz.f99) [1, 1, 0, 0, 0] []) ⟨mkT 74 [(2, .s (.lo 0 0)), (3, .s (.lo 1 0)), (5, .s (.i .u64 x5)), (6, .s (.i .u64 x6))], [some (121, [.i .u64 x1000, .i .i64 x1001, .i .i64 x1002, .i .i64 x1003, .i .u64 x1004, .i .u64 x1005]), some (127, [.sl .u32 x2000, .sl .u32 x2001, .i .i64 x2002, .b x2003])]⟩ (· = .s (.i .u64 r)))
 | 0 => (fun _ _ _ _ _ _ _ _ _ _ _ _ _ h => nn h)
 | k + 1 => by
  have ih := gnomonref08_Size.jc k
  ·intro x5 x6 x1000 x1001 x1002 x1003 x1004 x1005 x2000 x2001 x2002 x2003 r h
   rw [gnomonref08_Size.l0] at h
   rcases ite_e h with ⟨c1, h⟩ | ⟨c1, h⟩
   ·obtain ⟨bt1, A2, h⟩ := bnd h
    obtain ⟨t2, A3, h⟩ := bnd h
    obtain ⟨t3, A4, h⟩ := bnd h
    rcases ite_e h with ⟨c5, h⟩ | ⟨c5, h⟩
    ·exact jth Tryz.func99 [.br true, .r (.tu [.s (.i .u64 bt1.1), .s (.i .i64 bt1.2)]), .r (.s (.sl .u32 t2)), .r (.s (.i .i64 t3)), .br true, .cut 1 [2, 3, 5, 6] [0, 1] []] (fun _ => ai (d1 c1) (ai (by decide : (2 : Int) ≠ 0) (ai (gnomonref07_Parts.c A2) (ai (gnomonref01_Word.c A3) (ai (gnomonref08_Hold.c A4) (ai (d1 c5) (ih _ _ _ _ _ _ _ _ _ _ _ _ _ h))))))) (by kernel_rfl)
    ·exact jth Tryz.func99 [.br true, .r (.tu [.s (.i .u64 bt1.1), .s (.i .i64 bt1.2)]), .r (.s (.sl .u32 t2)), .r (.s (.i .i64 t3)), .br false, .cut 1 [2, 3, 5, 6] [0, 1] []] (fun _ => ai (d1 c1) (ai (by decide : (2 : Int) ≠ 0) (ai (gnomonref07_Parts.c A2) (ai (gnomonref01_Word.c A3) (ai (gnomonref08_Hold.c A4) (ai (d0 c5) (ih _ _ _ _ _ _ _ _ _ _ _ _ _ h))))))) (by kernel_rfl)
   ·rcases ite_e h with ⟨c6, h⟩ | ⟨c6, h⟩
    ·have h := si h; subst h
     exact jth Tryz.func99 [.br false, .br true] (fun e => ai (d0 c1) (ai (q1 c6) e)) (by kernel_rfl)
    ·obtain ⟨bt4, A7, h⟩ := bnd h
     obtain ⟨t5, A8, h⟩ := bnd h
     obtain ⟨t6, A9, h⟩ := bnd h
     obtain ⟨t7, A10, h⟩ := bnd h
     obtain ⟨t8, A11, h⟩ := bnd h
     obtain ⟨t9, A12, h⟩ := bnd h
     rcases ite_e h with ⟨c13, h⟩ | ⟨c13, h⟩
     ·have h := si h; subst h
      exact jth Tryz.func99 [.br false, .br false, .r (.tu [.s (.i .u64 bt4.1), .s (.i .i64 bt4.2)]), .r (.s (.sl .u32 t5)), .r (.s (.sl .u32 t6)), .r (.s (.sl .u32 t7)), .r (.s (.sl .u32 t8)), .r (.s (.i .i64 t9)), .br true, .br true, .br true, .br true, .br true, .br true] (fun e => ai (d0 c1) (ai (q0 c6) (ai (gnomonref07_Parts.c A7) (ai (gnomonref01_Word.c A8) (ai (gnomonref01_Shl.c A9) (ai (gnomonref01_Word.c A10) (ai (gnomonref01_Add.c A11) (ai (gnomonref08_Hold.c A12) (ai (d1 c13) (ai (d1 c13) (ai (d1 c13) (ai (d1 c13) (ai (d1 c13) (ai tt e)))))))))))))) (by kernel_rfl)
     ·rcases ite_e h with ⟨c14, h⟩ | ⟨c14, h⟩
      ·rcases ite_e h with ⟨c15, h⟩ | ⟨c15, h⟩
       ·have h := si h; subst h
        exact jth Tryz.func99 [.br false, .br false, .r (.tu [.s (.i .u64 bt4.1), .s (.i .i64 bt4.2)]), .r (.s (.sl .u32 t5)), .r (.s (.sl .u32 t6)), .r (.s (.sl .u32 t7)), .r (.s (.sl .u32 t8)), .r (.s (.i .i64 t9)), .br false, .br false, .br false, .br true, .br true, .br true, .br false, .br true, .br false, .br true] (fun e => ai (d0 c1) (ai (q0 c6) (ai (gnomonref07_Parts.c A7) (ai (gnomonref01_Word.c A8) (ai (gnomonref01_Shl.c A9) (ai (gnomonref01_Word.c A10) (ai (gnomonref01_Add.c A11) (ai (gnomonref08_Hold.c A12) (ai (d0 c13) (ai (d0 c13) (ai (d0 c13) (ai (q1 c14) (ai (q1 c14) (ai (by decide : (2 : Int) ≠ 0) (ai (q1 c14) (ai (d0 c13) (ai (q1 c14) (ai (d0 c13) (ai (q1 c15) e))))))))))))))))))) (by kernel_rfl)
       ·have h := si h; subst h
        exact jth Tryz.func99 [.br false, .br false, .r (.tu [.s (.i .u64 bt4.1), .s (.i .i64 bt4.2)]), .r (.s (.sl .u32 t5)), .r (.s (.sl .u32 t6)), .r (.s (.sl .u32 t7)), .r (.s (.sl .u32 t8)), .r (.s (.i .i64 t9)), .br false, .br false, .br false, .br true, .br true, .br true, .br false, .br true, .br false, .br false] (fun e => ai (d0 c1) (ai (q0 c6) (ai (gnomonref07_Parts.c A7) (ai (gnomonref01_Word.c A8) (ai (gnomonref01_Shl.c A9) (ai (gnomonref01_Word.c A10) (ai (gnomonref01_Add.c A11) (ai (gnomonref08_Hold.c A12) (ai (d0 c13) (ai (d0 c13) (ai (d0 c13) (ai (q1 c14) (ai (q1 c14) (ai (by decide : (2 : Int) ≠ 0) (ai (q1 c14) (ai (d0 c13) (ai (q1 c14) (ai (d0 c13) (ai (q0 c15) e))))))))))))))))))) (by kernel_rfl)
      ·have h := si h; subst h
       exact jth Tryz.func99 [.br false, .br false, .r (.tu [.s (.i .u64 bt4.1), .s (.i .i64 bt4.2)]), .r (.s (.sl .u32 t5)), .r (.s (.sl .u32 t6)), .r (.s (.sl .u32 t7)), .r (.s (.sl .u32 t8)), .r (.s (.i .i64 t9)), .br false, .br false, .br false, .br false, .br false, .br false, .br false, .br false, .br false, .br false] (fun e => ai (d0 c1) (ai (q0 c6) (ai (gnomonref07_Parts.c A7) (ai (gnomonref01_Word.c A8) (ai (gnomonref01_Shl.c A9) (ai (gnomonref01_Word.c A10) (ai (gnomonref01_Add.c A11) (ai (gnomonref08_Hold.c A12) (ai (d0 c13) (ai (d0 c13) (ai (d0 c13) (ai (q0 c14) (ai (q0 c14) (ai (q0 c14) (ai (d0 c13) (ai (q0 c14) (ai (d0 c13) (ai ff e)))))))))))))))))) (by kernel_rfl)
theorem gnomonref08_Size.c {k : Nat} {a0_0 : Int} {a0_1 : Int} {a0_2 : Int} {a0_3 : Int} {a0_4 : Int} {a0_5 : Int} {l1_0 : List Int} {l1_1 : List Int} {a1_2 : Int} {a1_3 : Bool} {r : Int} (h : gnomonref08_Size.f k a0_0 a0_1 a0_2 a0_3 a0_4 a0_5 l1_0 l1_1 a1_2 a1_3 = some r) : Con Tryz.prog Gw 99 [.ag [.i .u64 a0_0, .i .i64 a0_1, .i .i64 a0_2, .i .i64 a0_3, .i .u64 a0_4, .i .u64 a0_5], .ag [.sl .u32 l1_0, .sl .u32 l1_1, .i .i64 a1_2, .b a1_3]] (· = .s (.i .u64 r)) := by
 unfold gnomonref08_Size.f at h
 exact pth Tryz.func99 [.cut 2 [2, 3, 5, 6] [0, 1] []] (fun _ => (gnomonref08_Size.jc k _ _ _ _ _ _ _ _ _ _ _ _ _ h)) (by kernel_rfl)
def gnomonref04_Sign.f (a0_0 : Bool) (l0_1 : List Int) : Option (Int) := if (l0_1.length : Int) = 0 then (some 0) else (if a0_0 = true then (some (-1)) else (some 1))
theorem gnomonref04_Sign.c {a0_0 : Bool} {l0_1 : List Int} {r : Int} (h : gnomonref04_Sign.f a0_0 l0_1 = some r) : Con Tryz.prog Gw 71 [.ag [.b a0_0, .sl .u32 l0_1]] (· = .s (.i .i64 r)) := by
 unfold gnomonref04_Sign.f at h
 rcases ite_e h with ⟨c1, h⟩ | ⟨c1, h⟩
 ·have h := si h; subst h
  exact pth Tryz.func71 [.br true] (fun e => ai (q1 c1) e) (by kernel_rfl)
 ·rcases ite_e h with ⟨c2, h⟩ | ⟨c2, h⟩
  ·have h := si h; subst h
   exact pth Tryz.func71 [.br false, .br true] (fun e => ai (q0 c1) (ai c2 e)) (by kernel_rfl)
  ·have h := si h; subst h
   exact pth Tryz.func71 [.br false, .br false] (fun e => ai (q0 c1) (ai (z0 c2) e)) (by kernel_rfl)
def gnomonref04_Flip.f (k : Nat) (a0_0 : Bool) (l0_1 : List Int) : Option (Bool × List Int) := (gnomonref04_Mk.f k (!a0_0) l0_1).bind fun bt1 => (some (bt1.1, bt1.2))
theorem gnomonref04_Flip.mono : ∀ a0 a1 k, LeO (gnomonref04_Flip.f k a0 a1) (gnomonref04_Flip.f (k + 1) a0 a1) := by
 intro a0 a1 k
 unfold gnomonref04_Flip.f
 repeat' first
  | (with_reducible exact gnomonref04_Mk.mono _ _ _)
  | (with_reducible exact LeO.refl _)
  | (with_reducible exact LeO.none _)
  | (with_reducible refine LeO.ite ?_ ?_)
  | (with_reducible refine LeO.bind ?_ (fun _ => ?_))
theorem gnomonref04_Flip.c {k : Nat} {a0_0 : Bool} {l0_1 : List Int} {r : Bool × List Int} (h : gnomonref04_Flip.f k a0_0 l0_1 = some r) : Con Tryz.prog Gw 75 [.ag [.b a0_0, .sl .u32 l0_1]] (· = .ag [.b r.1, .sl .u32 r.2]) := by
 unfold gnomonref04_Flip.f at h
 obtain ⟨bt1, A1, h⟩ := bnd h
 have h := si h; subst h
 exact pth Tryz.func75 [.r (.ag [.b bt1.1, .sl .u32 bt1.2])] (fun e => ai (gnomonref04_Mk.c A1) e) (by kernel_rfl)
def gnomonref04_Abs.f (k : Nat) (a0_0 : Bool) (l0_1 : List Int) : Option (Bool × List Int) := (gnomonref04_Mk.f k false l0_1).bind fun bt1 => (some (bt1.1, bt1.2))
theorem gnomonref04_Abs.mono : ∀ a0 a1 k, LeO (gnomonref04_Abs.f k a0 a1) (gnomonref04_Abs.f (k + 1) a0 a1) := by
 intro a0 a1 k
 unfold gnomonref04_Abs.f
 repeat' first
  | (with_reducible exact gnomonref04_Mk.mono _ _ _)
  | (with_reducible exact LeO.refl _)
  | (with_reducible exact LeO.none _)
  | (with_reducible refine LeO.ite ?_ ?_)
  | (with_reducible refine LeO.bind ?_ (fun _ => ?_))
theorem gnomonref04_Abs.c {k : Nat} {a0_0 : Bool} {l0_1 : List Int} {r : Bool × List Int} (h : gnomonref04_Abs.f k a0_0 l0_1 = some r) : Con Tryz.prog Gw 42 [.ag [.b a0_0, .sl .u32 l0_1]] (· = .ag [.b r.1, .sl .u32 r.2]) := by
 unfold gnomonref04_Abs.f at h
 obtain ⟨bt1, A1, h⟩ := bnd h
 have h := si h; subst h
 exact pth Tryz.func42 [.r (.ag [.b bt1.1, .sl .u32 bt1.2])] (fun e => ai (gnomonref04_Mk.c A1) e) (by kernel_rfl)
def gnomonref04_Add.f (k : Nat) (a0_0 : Bool) (l0_1 : List Int) (a1_0 : Bool) (l1_1 : List Int) : Option (Bool × List Int) := if a0_0 = a1_0 then ((gnomonref01_Add.f k l0_1 l1_1).bind fun t1 => ((gnomonref04_Mk.f k a0_0 t1).bind fun bt2 => (some (bt2.1, bt2.2)))) else ((gnomonref01_Cmp.f k l0_1 l1_1).bind fun t3 => (if t3 ≥ 0 then ((gnomonref01_Sub.f k l0_1 l1_1).bind fun t4 => ((gnomonref04_Mk.f k a0_0 t4).bind fun bt5 => (some (bt5.1, bt5.2)))) else ((gnomonref01_Sub.f k l1_1 l0_1).bind fun t6 => ((gnomonref04_Mk.f k a1_0 t6).bind fun bt7 => (some (bt7.1, bt7.2))))))
theorem gnomonref04_Add.mono : ∀ a0 a1 a2 a3 k, LeO (gnomonref04_Add.f k a0 a1 a2 a3) (gnomonref04_Add.f (k + 1) a0 a1 a2 a3) := by
 intro a0 a1 a2 a3 k
 unfold gnomonref04_Add.f
 repeat' first
  | (with_reducible exact gnomonref01_Add.mono _ _ _)
  | (with_reducible exact gnomonref01_Cmp.mono _ _ _)
  | (with_reducible exact gnomonref01_Sub.mono _ _ _)
  | (with_reducible exact gnomonref04_Mk.mono _ _ _)
  | (with_reducible exact LeO.refl _)
  | (with_reducible exact LeO.none _)
  | (with_reducible refine LeO.ite ?_ ?_)
  | (with_reducible refine LeO.bind ?_ (fun _ => ?_))
theorem gnomonref04_Add.c {k : Nat} {a0_0 : Bool} {l0_1 : List Int} {a1_0 : Bool} {l1_1 : List Int} {r : Bool × List Int} (h : gnomonref04_Add.f k a0_0 l0_1 a1_0 l1_1 = some r) : Con Tryz.prog Gw 74 [.ag [.b a0_0, .sl .u32 l0_1], .ag [.b a1_0, .sl .u32 l1_1]] (· = .ag [.b r.1, .sl .u32 r.2]) := by
 unfold gnomonref04_Add.f at h
 rcases ite_e h with ⟨c1, h⟩ | ⟨c1, h⟩
 ·obtain ⟨t1, A2, h⟩ := bnd h
  obtain ⟨bt2, A3, h⟩ := bnd h
  have h := si h; subst h
  exact pth Tryz.func74 [.br true, .r (.s (.sl .u32 t1)), .r (.ag [.b bt2.1, .sl .u32 bt2.2])] (fun e => ai (q1 c1) (ai (gnomonref01_Add.c A2) (ai (gnomonref04_Mk.c A3) e))) (by kernel_rfl)
 ·obtain ⟨t3, A4, h⟩ := bnd h
  rcases ite_e h with ⟨c5, h⟩ | ⟨c5, h⟩
  ·obtain ⟨t4, A6, h⟩ := bnd h
   obtain ⟨bt5, A7, h⟩ := bnd h
   have h := si h; subst h
   exact pth Tryz.func74 [.br false, .r (.s (.i .i64 t3)), .br true, .r (.s (.sl .u32 t4)), .r (.ag [.b bt5.1, .sl .u32 bt5.2])] (fun e => ai (q0 c1) (ai (gnomonref01_Cmp.c A4) (ai (d1 c5) (ai (gnomonref01_Sub.c A6) (ai (gnomonref04_Mk.c A7) e))))) (by kernel_rfl)
  ·obtain ⟨t6, A8, h⟩ := bnd h
   obtain ⟨bt7, A9, h⟩ := bnd h
   have h := si h; subst h
   exact pth Tryz.func74 [.br false, .r (.s (.i .i64 t3)), .br false, .r (.s (.sl .u32 t6)), .r (.ag [.b bt7.1, .sl .u32 bt7.2])] (fun e => ai (q0 c1) (ai (gnomonref01_Cmp.c A4) (ai (d0 c5) (ai (gnomonref01_Sub.c A8) (ai (gnomonref04_Mk.c A9) e))))) (by kernel_rfl)
def gnomonref04_Sub.f (k : Nat) (a0_0 : Bool) (l0_1 : List Int) (a1_0 : Bool) (l1_1 : List Int) : Option (Bool × List Int) := (gnomonref04_Flip.f k a1_0 l1_1).bind fun bt1 => ((gnomonref04_Add.f k a0_0 l0_1 bt1.1 bt1.2).bind fun bt2 => (some (bt2.1, bt2.2)))
theorem gnomonref04_Sub.mono : ∀ a0 a1 a2 a3 k, LeO (gnomonref04_Sub.f k a0 a1 a2 a3) (gnomonref04_Sub.f (k + 1) a0 a1 a2 a3) := by
 intro a0 a1 a2 a3 k
 unfold gnomonref04_Sub.f
 repeat' first
  | (with_reducible exact gnomonref04_Add.mono _ _ _ _ _)
  | (with_reducible exact gnomonref04_Flip.mono _ _ _)
  | (with_reducible exact LeO.refl _)
  | (with_reducible exact LeO.none _)
  | (with_reducible refine LeO.ite ?_ ?_)
  | (with_reducible refine LeO.bind ?_ (fun _ => ?_))
theorem gnomonref04_Sub.c {k : Nat} {a0_0 : Bool} {l0_1 : List Int} {a1_0 : Bool} {l1_1 : List Int} {r : Bool × List Int} (h : gnomonref04_Sub.f k a0_0 l0_1 a1_0 l1_1 = some r) : Con Tryz.prog Gw 43 [.ag [.b a0_0, .sl .u32 l0_1], .ag [.b a1_0, .sl .u32 l1_1]] (· = .ag [.b r.1, .sl .u32 r.2]) := by
 unfold gnomonref04_Sub.f at h
 obtain ⟨bt1, A1, h⟩ := bnd h
 obtain ⟨bt2, A2, h⟩ := bnd h
 have h := si h; subst h
 exact pth Tryz.func43 [.r (.ag [.b bt1.1, .sl .u32 bt1.2]), .r (.ag [.b bt2.1, .sl .u32 bt2.2])] (fun e => ai (gnomonref04_Flip.c A1) (ai (gnomonref04_Add.c A2) e)) (by kernel_rfl)
def gnomonref04_Mul.f (k : Nat) (a0_0 : Bool) (l0_1 : List Int) (a1_0 : Bool) (l1_1 : List Int) : Option (Bool × List Int) := (gnomonref01_Mul.f k l0_1 l1_1).bind fun t1 => ((gnomonref04_Mk.f k (a0_0 != a1_0) t1).bind fun bt2 => (some (bt2.1, bt2.2)))
theorem gnomonref04_Mul.mono : ∀ a0 a1 a2 a3 k, LeO (gnomonref04_Mul.f k a0 a1 a2 a3) (gnomonref04_Mul.f (k + 1) a0 a1 a2 a3) := by
 intro a0 a1 a2 a3 k
 unfold gnomonref04_Mul.f
 repeat' first
  | (with_reducible exact gnomonref01_Mul.mono _ _ _)
  | (with_reducible exact gnomonref04_Mk.mono _ _ _)
  | (with_reducible exact LeO.refl _)
  | (with_reducible exact LeO.none _)
  | (with_reducible refine LeO.ite ?_ ?_)
  | (with_reducible refine LeO.bind ?_ (fun _ => ?_))
theorem gnomonref04_Mul.c {k : Nat} {a0_0 : Bool} {l0_1 : List Int} {a1_0 : Bool} {l1_1 : List Int} {r : Bool × List Int} (h : gnomonref04_Mul.f k a0_0 l0_1 a1_0 l1_1 = some r) : Con Tryz.prog Gw 16 [.ag [.b a0_0, .sl .u32 l0_1], .ag [.b a1_0, .sl .u32 l1_1]] (· = .ag [.b r.1, .sl .u32 r.2]) := by
 unfold gnomonref04_Mul.f at h
 obtain ⟨t1, A1, h⟩ := bnd h
 obtain ⟨bt2, A2, h⟩ := bnd h
 have h := si h; subst h
 exact pth Tryz.func16 [.r (.s (.sl .u32 t1)), .r (.ag [.b bt2.1, .sl .u32 bt2.2])] (fun e => ai (gnomonref01_Mul.c A1) (ai (gnomonref04_Mk.c A2) e)) (by kernel_rfl)
def gnomonref04_Cmp.f (k : Nat) (a0_0 : Bool) (l0_1 : List Int) (a1_0 : Bool) (l1_1 : List Int) : Option (Int) := (gnomonref04_Sub.f k a0_0 l0_1 a1_0 l1_1).bind fun bt1 => ((gnomonref04_Sign.f bt1.1 bt1.2).bind fun t2 => (some t2))
theorem gnomonref04_Cmp.mono : ∀ a0 a1 a2 a3 k, LeO (gnomonref04_Cmp.f k a0 a1 a2 a3) (gnomonref04_Cmp.f (k + 1) a0 a1 a2 a3) := by
 intro a0 a1 a2 a3 k
 unfold gnomonref04_Cmp.f
 repeat' first
  | (with_reducible exact gnomonref04_Sub.mono _ _ _ _ _)
  | (with_reducible exact LeO.refl _)
  | (with_reducible exact LeO.none _)
  | (with_reducible refine LeO.ite ?_ ?_)
  | (with_reducible refine LeO.bind ?_ (fun _ => ?_))
theorem gnomonref04_Cmp.c {k : Nat} {a0_0 : Bool} {l0_1 : List Int} {a1_0 : Bool} {l1_1 : List Int} {r : Int} (h : gnomonref04_Cmp.f k a0_0 l0_1 a1_0 l1_1 = some r) : Con Tryz.prog Gw 45 [.ag [.b a0_0, .sl .u32 l0_1], .ag [.b a1_0, .sl .u32 l1_1]] (· = .s (.i .i64 r)) := by
 unfold gnomonref04_Cmp.f at h
 obtain ⟨bt1, A1, h⟩ := bnd h
 obtain ⟨t2, A2, h⟩ := bnd h
 have h := si h; subst h
 exact pth Tryz.func45 [.r (.ag [.b bt1.1, .sl .u32 bt1.2]), .r (.s (.i .i64 t2))] (fun e => ai (gnomonref04_Sub.c A1) (ai (gnomonref04_Sign.c A2) e)) (by kernel_rfl)
def gnomonref04_Shl.f (k : Nat) (a0_0 : Bool) (l0_1 : List Int) (a1 : Int) : Option (Bool × List Int) := (gnomonref01_Shl.f k l0_1 a1).bind fun t1 => ((gnomonref04_Mk.f k a0_0 t1).bind fun bt2 => (some (bt2.1, bt2.2)))
theorem gnomonref04_Shl.mono : ∀ a0 a1 a2 k, LeO (gnomonref04_Shl.f k a0 a1 a2) (gnomonref04_Shl.f (k + 1) a0 a1 a2) := by
 intro a0 a1 a2 k
 unfold gnomonref04_Shl.f
 repeat' first
  | (with_reducible exact gnomonref01_Shl.mono _ _ _)
  | (with_reducible exact gnomonref04_Mk.mono _ _ _)
  | (with_reducible exact LeO.refl _)
  | (with_reducible exact LeO.none _)
  | (with_reducible refine LeO.ite ?_ ?_)
  | (with_reducible refine LeO.bind ?_ (fun _ => ?_))
theorem gnomonref04_Shl.c {k : Nat} {a0_0 : Bool} {l0_1 : List Int} {a1 : Int} {r : Bool × List Int} (h : gnomonref04_Shl.f k a0_0 l0_1 a1 = some r) : Con Tryz.prog Gw 46 [.ag [.b a0_0, .sl .u32 l0_1], .s (.i .i64 a1)] (· = .ag [.b r.1, .sl .u32 r.2]) := by
 unfold gnomonref04_Shl.f at h
 obtain ⟨t1, A1, h⟩ := bnd h
 obtain ⟨bt2, A2, h⟩ := bnd h
 have h := si h; subst h
 exact pth Tryz.func46 [.r (.s (.sl .u32 t1)), .r (.ag [.b bt2.1, .sl .u32 bt2.2])] (fun e => ai (gnomonref01_Shl.c A1) (ai (gnomonref04_Mk.c A2) e)) (by kernel_rfl)
def gnomonref07_Whole.f (k : Nat) (a0_0 : Int) (a0_1 : Int) (a0_2 : Int) (a0_3 : Int) (a0_4 : Int) (a0_5 : Int) (a1 : Int) : Option (Bool × List Int) := (gnomonref07_Cut.f a0_0 a0_1 a0_2 a0_3 a0_4 a0_5 a1).bind fun bt1 => ((gnomonref07_Parts.f a0_0 a0_1 a0_2 a0_3 a0_4 a0_5 bt1.2).bind fun bt2 => ((gnomonref01_Word.f k bt2.1).bind fun t3 => ((gnomonref01_Shl.f k t3 (wrap64 (bt2.2 - a0_2))).bind fun t4 => ((gnomonref04_Mk.f k bt1.1 t4).bind fun bt5 => (some (bt5.1, bt5.2))))))
theorem gnomonref07_Whole.mono : ∀ a0 a1 a2 a3 a4 a5 a6 k, LeO (gnomonref07_Whole.f k a0 a1 a2 a3 a4 a5 a6) (gnomonref07_Whole.f (k + 1) a0 a1 a2 a3 a4 a5 a6) := by
 intro a0 a1 a2 a3 a4 a5 a6 k
 unfold gnomonref07_Whole.f
 repeat' first
  | (with_reducible exact gnomonref01_Shl.mono _ _ _)
  | (with_reducible exact gnomonref01_Word.mono _ _)
  | (with_reducible exact gnomonref04_Mk.mono _ _ _)
  | (with_reducible exact LeO.refl _)
  | (with_reducible exact LeO.none _)
  | (with_reducible refine LeO.ite ?_ ?_)
  | (with_reducible refine LeO.bind ?_ (fun _ => ?_))
theorem gnomonref07_Whole.c {k : Nat} {a0_0 : Int} {a0_1 : Int} {a0_2 : Int} {a0_3 : Int} {a0_4 : Int} {a0_5 : Int} {a1 : Int} {r : Bool × List Int} (h : gnomonref07_Whole.f k a0_0 a0_1 a0_2 a0_3 a0_4 a0_5 a1 = some r) : Con Tryz.prog Gw 102 [.ag [.i .u64 a0_0, .i .i64 a0_1, .i .i64 a0_2, .i .i64 a0_3, .i .u64 a0_4, .i .u64 a0_5], .s (.i .u64 a1)] (· = .ag [.b r.1, .sl .u32 r.2]) := by
 unfold gnomonref07_Whole.f at h
 obtain ⟨bt1, A1, h⟩ := bnd h
 obtain ⟨bt2, A2, h⟩ := bnd h
 obtain ⟨t3, A3, h⟩ := bnd h
 obtain ⟨t4, A4, h⟩ := bnd h
 obtain ⟨bt5, A5, h⟩ := bnd h
 have h := si h; subst h
 exact pth Tryz.func102 [.r (.tu [.s (.b bt1.1), .s (.i .u64 bt1.2)]), .r (.tu [.s (.i .u64 bt2.1), .s (.i .i64 bt2.2)]), .r (.s (.sl .u32 t3)), .r (.s (.sl .u32 t4)), .r (.ag [.b bt5.1, .sl .u32 bt5.2])] (fun e => ai (gnomonref07_Cut.c A1) (ai (gnomonref07_Parts.c A2) (ai (gnomonref01_Word.c A3) (ai (gnomonref01_Shl.c A4) (ai (gnomonref04_Mk.c A5) e))))) (by kernel_rfl)
def gnomonref08_signed.f (a0_0 : Int) (a0_1 : Int) (a0_2 : Int) (a0_3 : Int) (a0_4 : Int) (a0_5 : Int) (a1 : Bool) (a2 : Int) : Option (Int) := if a1 = true then (some (IntKind.u64.wrap (a0_0 + a2))) else (some a2)
theorem gnomonref08_signed.c {a0_0 : Int} {a0_1 : Int} {a0_2 : Int} {a0_3 : Int} {a0_4 : Int} {a0_5 : Int} {a1 : Bool} {a2 : Int} {r : Int} (h : gnomonref08_signed.f a0_0 a0_1 a0_2 a0_3 a0_4 a0_5 a1 a2 = some r) : Con Tryz.prog Gw 98 [.ag [.i .u64 a0_0, .i .i64 a0_1, .i .i64 a0_2, .i .i64 a0_3, .i .u64 a0_4, .i .u64 a0_5], .s (.b a1), .s (.i .u64 a2)] (· = .s (.i .u64 r)) := by
 unfold gnomonref08_signed.f at h
 rcases ite_e h with ⟨c1, h⟩ | ⟨c1, h⟩
 ·have h := si h; subst h
  exact pth Tryz.func98 [.br true] (fun e => ai c1 e) (by kernel_rfl)
 ·have h := si h; subst h
  exact pth Tryz.func98 [.br false] (fun e => ai (z0 c1) e) (by kernel_rfl)
def gnomonref08_Told.f (k : Nat) (a0 : Int) (a1_0 : Bool) (l1_1 : List Int) (a2 : Int) : Option (Int) := (gnomonref07_Of.f a0).bind fun bt1 => (if (l1_1.length : Int) = 0 then (some 0) else ((gnomonref01_Word.f k 1).bind fun t2 => ((gnomonref08_Size.f k bt1.1 bt1.2.1 bt1.2.2.1 bt1.2.2.2.1 bt1.2.2.2.2.1 bt1.2.2.2.2.2.1 l1_1 t2 a2 false).bind fun t3 => ((gnomonref08_signed.f bt1.1 bt1.2.1 bt1.2.2.1 bt1.2.2.2.1 bt1.2.2.2.2.1 bt1.2.2.2.2.2.1 a1_0 t3).bind fun t4 => (some t4)))))
theorem gnomonref08_Told.mono : ∀ a0 a1 a2 a3 k, LeO (gnomonref08_Told.f k a0 a1 a2 a3) (gnomonref08_Told.f (k + 1) a0 a1 a2 a3) := by
 intro a0 a1 a2 a3 k
 unfold gnomonref08_Told.f
 repeat' first
  | (with_reducible exact gnomonref01_Word.mono _ _)
  | (with_reducible exact gnomonref08_Size.mono _ _ _ _ _ _ _ _ _ _ _)
  | (with_reducible exact LeO.refl _)
  | (with_reducible exact LeO.none _)
  | (with_reducible refine LeO.ite ?_ ?_)
  | (with_reducible refine LeO.bind ?_ (fun _ => ?_))
theorem gnomonref08_Told.c {k : Nat} {a0 : Int} {a1_0 : Bool} {l1_1 : List Int} {a2 : Int} {r : Int} (h : gnomonref08_Told.f k a0 a1_0 l1_1 a2 = some r) : Con Tryz.prog Gw 73 [.s (.i .i64 a0), .ag [.b a1_0, .sl .u32 l1_1], .s (.i .i64 a2)] (· = .s (.i .u64 r)) := by
 unfold gnomonref08_Told.f at h
 obtain ⟨bt1, A1, h⟩ := bnd h
 rcases ite_e h with ⟨c2, h⟩ | ⟨c2, h⟩
 ·have h := si h; subst h
  exact pth Tryz.func73 [.r (.tu [.ag [.i .u64 bt1.1, .i .i64 bt1.2.1, .i .i64 bt1.2.2.1, .i .i64 bt1.2.2.2.1, .i .u64 bt1.2.2.2.2.1, .i .u64 bt1.2.2.2.2.2.1], .s (.b bt1.2.2.2.2.2.2)]), .br true] (fun e => ai (gnomonref07_Of.c A1) (ai (q1 c2) e)) (by kernel_rfl)
 ·obtain ⟨t2, A3, h⟩ := bnd h
  obtain ⟨t3, A4, h⟩ := bnd h
  obtain ⟨t4, A5, h⟩ := bnd h
  have h := si h; subst h
  exact pth Tryz.func73 [.r (.tu [.ag [.i .u64 bt1.1, .i .i64 bt1.2.1, .i .i64 bt1.2.2.1, .i .i64 bt1.2.2.2.1, .i .u64 bt1.2.2.2.2.1, .i .u64 bt1.2.2.2.2.2.1], .s (.b bt1.2.2.2.2.2.2)]), .br false, .r (.s (.sl .u32 t2)), .r (.s (.i .u64 t3)), .r (.s (.i .u64 t4))] (fun e => ai (gnomonref07_Of.c A1) (ai (q0 c2) (ai (gnomonref01_Word.c A3) (ai (gnomonref08_Size.c A4) (ai (gnomonref08_signed.c A5) e))))) (by kernel_rfl)
def gnomonref20_Finite.f (a0 : Int) : Option (Bool) := some (decide (Int.tmod a0 9223372036854775808 < 9218868437227405312))
theorem gnomonref20_Finite.c {a0 : Int} {r : Bool} (h : gnomonref20_Finite.f a0 = some r) : Con Tryz.prog Gw 70 [.s (.i .u64 a0)] (· = .s (.b r)) := by
 unfold gnomonref20_Finite.f at h
 have h := si h; subst h
 exact pth Tryz.func70 [] (fun e => ai (by decide : (9223372036854775808 : Int) ≠ 0) e) (by kernel_rfl)
def gnomonref20_Number.f (k : Nat) (a0 : Int) : Option (Bool × List Int) := (gnomonref07_Of.f 64).bind fun bt1 => ((gnomonref07_Whole.f k bt1.1 bt1.2.1 bt1.2.2.1 bt1.2.2.2.1 bt1.2.2.2.2.1 bt1.2.2.2.2.2.1 a0).bind fun bt2 => (some (bt2.1, bt2.2)))
theorem gnomonref20_Number.mono : ∀ a0 k, LeO (gnomonref20_Number.f k a0) (gnomonref20_Number.f (k + 1) a0) := by
 intro a0 k
 unfold gnomonref20_Number.f
 repeat' first
  | (with_reducible exact gnomonref07_Whole.mono _ _ _ _ _ _ _ _)
  | (with_reducible exact LeO.refl _)
  | (with_reducible exact LeO.none _)
  | (with_reducible refine LeO.ite ?_ ?_)
  | (with_reducible refine LeO.bind ?_ (fun _ => ?_))
theorem gnomonref20_Number.c {k : Nat} {a0 : Int} {r : Bool × List Int} (h : gnomonref20_Number.f k a0 = some r) : Con Tryz.prog Gw 76 [.s (.i .u64 a0)] (· = .ag [.b r.1, .sl .u32 r.2]) := by
 unfold gnomonref20_Number.f at h
 obtain ⟨bt1, A1, h⟩ := bnd h
 obtain ⟨bt2, A2, h⟩ := bnd h
 have h := si h; subst h
 exact pth Tryz.func76 [.r (.tu [.ag [.i .u64 bt1.1, .i .i64 bt1.2.1, .i .i64 bt1.2.2.1, .i .i64 bt1.2.2.2.1, .i .u64 bt1.2.2.2.2.1, .i .u64 bt1.2.2.2.2.2.1], .s (.b bt1.2.2.2.2.2.2)]), .r (.ag [.b bt2.1, .sl .u32 bt2.2])] (fun e => ai (gnomonref07_Of.c A1) (ai (gnomonref07_Whole.c A2) e)) (by kernel_rfl)
def gnomonref20_Sum.f (k : Nat) (a0_0 : Int) (a0_1 : Int) : Option (Bool × List Int) := (gnomonref20_Number.f k a0_0).bind fun bt1 => ((gnomonref20_Number.f k a0_1).bind fun bt2 => ((gnomonref04_Add.f k bt1.1 bt1.2 bt2.1 bt2.2).bind fun bt3 => (some (bt3.1, bt3.2))))
theorem gnomonref20_Sum.mono : ∀ a0 a1 k, LeO (gnomonref20_Sum.f k a0 a1) (gnomonref20_Sum.f (k + 1) a0 a1) := by
 intro a0 a1 k
 unfold gnomonref20_Sum.f
 repeat' first
  | (with_reducible exact gnomonref04_Add.mono _ _ _ _ _)
  | (with_reducible exact gnomonref20_Number.mono _ _)
  | (with_reducible exact LeO.refl _)
  | (with_reducible exact LeO.none _)
  | (with_reducible refine LeO.ite ?_ ?_)
  | (with_reducible refine LeO.bind ?_ (fun _ => ?_))
theorem gnomonref20_Sum.c {k : Nat} {a0_0 : Int} {a0_1 : Int} {r : Bool × List Int} (h : gnomonref20_Sum.f k a0_0 a0_1 = some r) : Con Tryz.prog Gw 44 [.ag [.i .u64 a0_0, .i .u64 a0_1]] (· = .ag [.b r.1, .sl .u32 r.2]) := by
 unfold gnomonref20_Sum.f at h
 obtain ⟨bt1, A1, h⟩ := bnd h
 obtain ⟨bt2, A2, h⟩ := bnd h
 obtain ⟨bt3, A3, h⟩ := bnd h
 have h := si h; subst h
 exact pth Tryz.func44 [.r (.ag [.b bt1.1, .sl .u32 bt1.2]), .r (.ag [.b bt2.1, .sl .u32 bt2.2]), .r (.ag [.b bt3.1, .sl .u32 bt3.2])] (fun e => ai (gnomonref20_Number.c A1) (ai (gnomonref20_Number.c A2) (ai (gnomonref04_Add.c A3) e))) (by kernel_rfl)
def gnomonref20_Nought.f (a0 : Int) : Option (Bool) := some ((Int.tmod a0 9223372036854775808) == 0)
theorem gnomonref20_Nought.c {a0 : Int} {r : Bool} (h : gnomonref20_Nought.f a0 = some r) : Con Tryz.prog Gw 72 [.s (.i .u64 a0)] (· = .s (.b r)) := by
 unfold gnomonref20_Nought.f at h
 have h := si h; subst h
 exact pth Tryz.func72 [] (fun e => ai (by decide : (9223372036854775808 : Int) ≠ 0) e) (by kernel_rfl)
def gnomonref20_DocForm.f (k : Nat) (a0_0 : Int) (a0_1 : Int) : Option (Bool) := (gnomonref20_Finite.f a0_0).bind fun t1 => (if t1 = true then ((gnomonref20_Finite.f a0_1).bind fun t2 => (if t2 = true then ((gnomonref20_Sum.f k a0_0 a0_1).bind fun bt3 => ((gnomonref04_Sign.f bt3.1 bt3.2).bind fun t4 => (if t4 = 0 then ((gnomonref20_Nought.f a0_0).bind fun t5 => (some t5)) else ((gnomonref08_Told.f k 64 bt3.1 bt3.2 (-1074)).bind fun t6 => (some (t6 == a0_0)))))) else (some false))) else (some false))
theorem gnomonref20_DocForm.mono : ∀ a0 a1 k, LeO (gnomonref20_DocForm.f k a0 a1) (gnomonref20_DocForm.f (k + 1) a0 a1) := by
 intro a0 a1 k
 unfold gnomonref20_DocForm.f
 repeat' first
  | (with_reducible exact gnomonref08_Told.mono _ _ _ _ _)
  | (with_reducible exact gnomonref20_Sum.mono _ _ _)
  | (with_reducible exact LeO.refl _)
  | (with_reducible exact LeO.none _)
  | (with_reducible refine LeO.ite ?_ ?_)
  | (with_reducible refine LeO.bind ?_ (fun _ => ?_))
theorem gnomonref20_DocForm.c {k : Nat} {a0_0 : Int} {a0_1 : Int} {r : Bool} (h : gnomonref20_DocForm.f k a0_0 a0_1 = some r) : Con Tryz.prog Gw 41 [.ag [.i .u64 a0_0, .i .u64 a0_1]] (· = .s (.b r)) := by
 unfold gnomonref20_DocForm.f at h
 obtain ⟨t1, A1, h⟩ := bnd h
 rcases ite_e h with ⟨c2, h⟩ | ⟨c2, h⟩
 ·obtain ⟨t2, A3, h⟩ := bnd h
  rcases ite_e h with ⟨c4, h⟩ | ⟨c4, h⟩
  ·obtain ⟨bt3, A5, h⟩ := bnd h
   obtain ⟨t4, A6, h⟩ := bnd h
   rcases ite_e h with ⟨c7, h⟩ | ⟨c7, h⟩
   ·obtain ⟨t5, A8, h⟩ := bnd h
    have h := si h; subst h
    exact pth Tryz.func41 [.r (.s (.b t1)), .br false, .br false, .br false, .r (.s (.b t2)), .br false, .br false, .br false, .r (.ag [.b bt3.1, .sl .u32 bt3.2]), .r (.s (.i .i64 t4)), .br true, .r (.s (.b t5))] (fun e => ai (gnomonref20_Finite.c A1) (ai (nt1 c2) (ai (nt1 c2) (ai (nt1 c2) (ai (gnomonref20_Finite.c A3) (ai (nt1 c2) (ai (nt1 c2) (ai (nt1 c4) (ai (gnomonref20_Sum.c A5) (ai (gnomonref04_Sign.c A6) (ai (q1 c7) (ai (gnomonref20_Nought.c A8) e)))))))))))) (by kernel_rfl)
   ·obtain ⟨t6, A9, h⟩ := bnd h
    have h := si h; subst h
    exact pth Tryz.func41 [.r (.s (.b t1)), .br false, .br false, .br false, .r (.s (.b t2)), .br false, .br false, .br false, .r (.ag [.b bt3.1, .sl .u32 bt3.2]), .r (.s (.i .i64 t4)), .br false, .r (.s (.i .u64 t6))] (fun e => ai (gnomonref20_Finite.c A1) (ai (nt1 c2) (ai (nt1 c2) (ai (nt1 c2) (ai (gnomonref20_Finite.c A3) (ai (nt1 c2) (ai (nt1 c2) (ai (nt1 c4) (ai (gnomonref20_Sum.c A5) (ai (gnomonref04_Sign.c A6) (ai (q0 c7) (ai (gnomonref08_Told.c A9) e)))))))))))) (by kernel_rfl)
  ·have h := si h; subst h
   exact pth Tryz.func41 [.r (.s (.b t1)), .br false, .br false, .br false, .r (.s (.b t2)), .br false, .br false, .br true] (fun e => ai (gnomonref20_Finite.c A1) (ai (nt1 c2) (ai (nt1 c2) (ai (nt1 c2) (ai (gnomonref20_Finite.c A3) (ai (nt1 c2) (ai (nt1 c2) (ai (nt0 (z0 c4)) e)))))))) (by kernel_rfl)
 ·have h := si h; subst h
  exact pth Tryz.func41 [.r (.s (.b t1)), .br true, .br true, .br true, .br true, .br true, .br true] (fun e => ai (gnomonref20_Finite.c A1) (ai (nt0 (z0 c2)) (ai (nt0 (z0 c2)) (ai (nt0 (z0 c2)) (ai (nt0 (z0 c2)) (ai (nt0 (z0 c2)) (ai tt e))))))) (by kernel_rfl)
def gnomonref20_FitFloat.f (a0 : Int) : Option (Bool) := if (Int.tmod a0 9223372036854775808) = 0 then (some true) else (if Int.tmod a0 9223372036854775808 ≥ 3256102530588868608 then (some (decide (Int.tmod a0 9223372036854775808 ≤ 5958262307011166208))) else (some false))
theorem gnomonref20_FitFloat.c {a0 : Int} {r : Bool} (h : gnomonref20_FitFloat.f a0 = some r) : Con Tryz.prog Gw 20 [.s (.i .u64 a0)] (· = .s (.b r)) := by
 unfold gnomonref20_FitFloat.f at h
 rcases ite_e h with ⟨c1, h⟩ | ⟨c1, h⟩
 ·have h := si h; subst h
  exact pth Tryz.func20 [.br true, .br true, .br true, .br true, .br true] (fun e => ai (by decide : (9223372036854775808 : Int) ≠ 0) (ai (q1 c1) (ai (q1 c1) (ai (q1 c1) (ai (q1 c1) (ai (q1 c1) e)))))) (by kernel_rfl)
 ·rcases ite_e h with ⟨c2, h⟩ | ⟨c2, h⟩
  ·have h := si h; subst h
   exact pth Tryz.func20 [.br false, .br false, .br false, .br true, .br true, .br false, .br true, .br false] (fun e => ai (by decide : (9223372036854775808 : Int) ≠ 0) (ai (q0 c1) (ai (q0 c1) (ai (q0 c1) (ai (d1 c2) (ai (d1 c2) (ai (q0 c1) (ai (d1 c2) (ai (q0 c1) e))))))))) (by kernel_rfl)
  ·have h := si h; subst h
   exact pth Tryz.func20 [.br false, .br false, .br false, .br false, .br false, .br false, .br false, .br false] (fun e => ai (by decide : (9223372036854775808 : Int) ≠ 0) (ai (q0 c1) (ai (q0 c1) (ai (q0 c1) (ai (d0 c2) (ai (d0 c2) (ai (q0 c1) (ai (d0 c2) (ai (q0 c1) e))))))))) (by kernel_rfl)
def gnomonref20_Fit.f (k : Nat) (a0_0 : Int) (a0_1 : Int) : Option (Bool) := (gnomonref20_DocForm.f k a0_0 a0_1).bind fun t1 => (if t1 = true then ((gnomonref20_FitFloat.f a0_0).bind fun t2 => (some t2)) else (some false))
theorem gnomonref20_Fit.mono : ∀ a0 a1 k, LeO (gnomonref20_Fit.f k a0 a1) (gnomonref20_Fit.f (k + 1) a0 a1) := by
 intro a0 a1 k
 unfold gnomonref20_Fit.f
 repeat' first
  | (with_reducible exact gnomonref20_DocForm.mono _ _ _)
  | (with_reducible exact LeO.refl _)
  | (with_reducible exact LeO.none _)
  | (with_reducible refine LeO.ite ?_ ?_)
  | (with_reducible refine LeO.bind ?_ (fun _ => ?_))
theorem gnomonref20_Fit.c {k : Nat} {a0_0 : Int} {a0_1 : Int} {r : Bool} (h : gnomonref20_Fit.f k a0_0 a0_1 = some r) : Con Tryz.prog Gw 19 [.ag [.i .u64 a0_0, .i .u64 a0_1]] (· = .s (.b r)) := by
 unfold gnomonref20_Fit.f at h
 obtain ⟨t1, A1, h⟩ := bnd h
 rcases ite_e h with ⟨c2, h⟩ | ⟨c2, h⟩
 ·obtain ⟨t2, A3, h⟩ := bnd h
  have h := si h; subst h
  exact pth Tryz.func19 [.r (.s (.b t1)), .br true, .br true, .br true, .r (.s (.b t2)), .br true] (fun e => ai (gnomonref20_DocForm.c A1) (ai c2 (ai c2 (ai c2 (ai (gnomonref20_FitFloat.c A3) (ai c2 e)))))) (by kernel_rfl)
 ·have h := si h; subst h
  exact pth Tryz.func19 [.r (.s (.b t1)), .br false, .br false, .br false, .br false] (fun e => ai (gnomonref20_DocForm.c A1) (ai (z0 c2) (ai (z0 c2) (ai (z0 c2) (ai (z0 c2) e))))) (by kernel_rfl)
def gnomonref20_One.f (k : Nat) : Option (Bool × List Int) := (gnomonref01_Pow2.f k 1074).bind fun t1 => ((gnomonref04_Mk.f k false t1).bind fun bt2 => (some (bt2.1, bt2.2)))
theorem gnomonref20_One.mono : ∀  k, LeO (gnomonref20_One.f k ) (gnomonref20_One.f (k + 1) ) := by
 intro  k
 unfold gnomonref20_One.f
 repeat' first
  | (with_reducible exact gnomonref01_Pow2.mono _ _)
  | (with_reducible exact gnomonref04_Mk.mono _ _ _)
  | (with_reducible exact LeO.refl _)
  | (with_reducible exact LeO.none _)
  | (with_reducible refine LeO.ite ?_ ?_)
  | (with_reducible refine LeO.bind ?_ (fun _ => ?_))
theorem gnomonref20_One.c {k : Nat} {r : Bool × List Int} (h : gnomonref20_One.f k = some r) : Con Tryz.prog Gw 18 [] (· = .ag [.b r.1, .sl .u32 r.2]) := by
 unfold gnomonref20_One.f at h
 obtain ⟨t1, A1, h⟩ := bnd h
 obtain ⟨bt2, A2, h⟩ := bnd h
 have h := si h; subst h
 exact pth Tryz.func18 [.r (.s (.sl .u32 t1)), .r (.ag [.b bt2.1, .sl .u32 bt2.2])] (fun e => ai (gnomonref01_Pow2.c A1) (ai (gnomonref04_Mk.c A2) e)) (by kernel_rfl)
def gnomonref20_Near.f (k : Nat) (a0_0 : Int) (a0_1 : Int) (a1_0 : Bool) (l1_1 : List Int) (a2_0 : Bool) (l2_1 : List Int) (a3 : Int) : Option (Bool) := (gnomonref20_DocForm.f k a0_0 a0_1).bind fun t1 => (if t1 = true then ((gnomonref20_Sum.f k a0_0 a0_1).bind fun bt2 => ((gnomonref04_Mul.f k bt2.1 bt2.2 a2_0 l2_1).bind fun bt3 => ((gnomonref04_Sub.f k bt3.1 bt3.2 a1_0 l1_1).bind fun bt4 => ((gnomonref04_Abs.f k bt4.1 bt4.2).bind fun bt5 => ((gnomonref04_Shl.f k bt5.1 bt5.2 a3).bind fun bt6 => ((gnomonref04_Abs.f k a1_0 l1_1).bind fun bt7 => ((gnomonref04_Cmp.f k bt6.1 bt6.2 bt7.1 bt7.2).bind fun t8 => (some (decide (t8 ≤ 0)))))))))) else (some false))
theorem gnomonref20_Near.mono : ∀ a0 a1 a2 a3 a4 a5 a6 k, LeO (gnomonref20_Near.f k a0 a1 a2 a3 a4 a5 a6) (gnomonref20_Near.f (k + 1) a0 a1 a2 a3 a4 a5 a6) := by
 intro a0 a1 a2 a3 a4 a5 a6 k
 unfold gnomonref20_Near.f
 repeat' first
  | (with_reducible exact gnomonref04_Abs.mono _ _ _)
  | (with_reducible exact gnomonref04_Cmp.mono _ _ _ _ _)
  | (with_reducible exact gnomonref04_Mul.mono _ _ _ _ _)
  | (with_reducible exact gnomonref04_Shl.mono _ _ _ _)
  | (with_reducible exact gnomonref04_Sub.mono _ _ _ _ _)
  | (with_reducible exact gnomonref20_DocForm.mono _ _ _)
  | (with_reducible exact gnomonref20_Sum.mono _ _ _)
  | (with_reducible exact LeO.refl _)
  | (with_reducible exact LeO.none _)
  | (with_reducible refine LeO.ite ?_ ?_)
  | (with_reducible refine LeO.bind ?_ (fun _ => ?_))
theorem gnomonref20_Near.c {k : Nat} {a0_0 : Int} {a0_1 : Int} {a1_0 : Bool} {l1_1 : List Int} {a2_0 : Bool} {l2_1 : List Int} {a3 : Int} {r : Bool} (h : gnomonref20_Near.f k a0_0 a0_1 a1_0 l1_1 a2_0 l2_1 a3 = some r) : Con Tryz.prog Gw 15 [.ag [.i .u64 a0_0, .i .u64 a0_1], .ag [.b a1_0, .sl .u32 l1_1], .ag [.b a2_0, .sl .u32 l2_1], .s (.i .i64 a3)] (· = .s (.b r)) := by
 unfold gnomonref20_Near.f at h
 obtain ⟨t1, A1, h⟩ := bnd h
 rcases ite_e h with ⟨c2, h⟩ | ⟨c2, h⟩
 ·obtain ⟨bt2, A3, h⟩ := bnd h
  obtain ⟨bt3, A4, h⟩ := bnd h
  obtain ⟨bt4, A5, h⟩ := bnd h
  obtain ⟨bt5, A6, h⟩ := bnd h
  obtain ⟨bt6, A7, h⟩ := bnd h
  obtain ⟨bt7, A8, h⟩ := bnd h
  obtain ⟨t8, A9, h⟩ := bnd h
  have h := si h; subst h
  exact pth Tryz.func15 [.r (.s (.b t1)), .br false, .r (.ag [.b bt2.1, .sl .u32 bt2.2]), .r (.ag [.b bt3.1, .sl .u32 bt3.2]), .r (.ag [.b bt4.1, .sl .u32 bt4.2]), .r (.ag [.b bt5.1, .sl .u32 bt5.2]), .r (.ag [.b bt6.1, .sl .u32 bt6.2]), .r (.ag [.b bt7.1, .sl .u32 bt7.2]), .r (.s (.i .i64 t8))] (fun e => ai (gnomonref20_DocForm.c A1) (ai (nt1 c2) (ai (gnomonref20_Sum.c A3) (ai (gnomonref04_Mul.c A4) (ai (gnomonref04_Sub.c A5) (ai (gnomonref04_Abs.c A6) (ai (gnomonref04_Shl.c A7) (ai (gnomonref04_Abs.c A8) (ai (gnomonref04_Cmp.c A9) e))))))))) (by kernel_rfl)
 ·have h := si h; subst h
  exact pth Tryz.func15 [.r (.s (.b t1)), .br true] (fun e => ai (gnomonref20_DocForm.c A1) (ai (nt0 (z0 c2)) e)) (by kernel_rfl)
def gnomonref20_Just.f (k : Nat) (a0_0 : Int) (a0_1 : Int) (a1_0 : Bool) (l1_1 : List Int) : Option (Bool) := (gnomonref20_DocForm.f k a0_0 a0_1).bind fun t1 => (if t1 = true then ((gnomonref20_Sum.f k a0_0 a0_1).bind fun bt2 => ((gnomonref04_Cmp.f k bt2.1 bt2.2 a1_0 l1_1).bind fun t3 => (some (t3 == 0)))) else (some false))
theorem gnomonref20_Just.mono : ∀ a0 a1 a2 a3 k, LeO (gnomonref20_Just.f k a0 a1 a2 a3) (gnomonref20_Just.f (k + 1) a0 a1 a2 a3) := by
 intro a0 a1 a2 a3 k
 unfold gnomonref20_Just.f
 repeat' first
  | (with_reducible exact gnomonref04_Cmp.mono _ _ _ _ _)
  | (with_reducible exact gnomonref20_DocForm.mono _ _ _)
  | (with_reducible exact gnomonref20_Sum.mono _ _ _)
  | (with_reducible exact LeO.refl _)
  | (with_reducible exact LeO.none _)
  | (with_reducible refine LeO.ite ?_ ?_)
  | (with_reducible refine LeO.bind ?_ (fun _ => ?_))
theorem gnomonref20_Just.c {k : Nat} {a0_0 : Int} {a0_1 : Int} {a1_0 : Bool} {l1_1 : List Int} {r : Bool} (h : gnomonref20_Just.f k a0_0 a0_1 a1_0 l1_1 = some r) : Con Tryz.prog Gw 95 [.ag [.i .u64 a0_0, .i .u64 a0_1], .ag [.b a1_0, .sl .u32 l1_1]] (· = .s (.b r)) := by
 unfold gnomonref20_Just.f at h
 obtain ⟨t1, A1, h⟩ := bnd h
 rcases ite_e h with ⟨c2, h⟩ | ⟨c2, h⟩
 ·obtain ⟨bt2, A3, h⟩ := bnd h
  obtain ⟨t3, A4, h⟩ := bnd h
  have h := si h; subst h
  exact pth Tryz.func95 [.r (.s (.b t1)), .br true, .br true, .r (.ag [.b bt2.1, .sl .u32 bt2.2]), .br true, .br true, .r (.s (.i .i64 t3)), .br true, .br true] (fun e => ai (gnomonref20_DocForm.c A1) (ai c2 (ai c2 (ai (gnomonref20_Sum.c A3) (ai c2 (ai c2 (ai (gnomonref04_Cmp.c A4) (ai c2 (ai c2 e))))))))) (by kernel_rfl)
 ·have h := si h; subst h
  exact pth Tryz.func95 [.r (.s (.b t1)), .br false, .br false, .br false, .br false, .br false, .br false] (fun e => ai (gnomonref20_DocForm.c A1) (ai (z0 c2) (ai (z0 c2) (ai (z0 c2) (ai (z0 c2) (ai (z0 c2) (ai (z0 c2) e))))))) (by kernel_rfl)
end Go.Proofs.YtapikmfckpgjoaaGreatDoor.PLib
