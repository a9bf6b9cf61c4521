/- Functions of the program as plain Lean functions (definitions as the print's), and that the machine's calls do what they do (contracts 'X.c', by Px). Condition: math/bits' table is laid. Operands of layer 9 as plain values: how an interface value stands for them, and cases. Plain lemmas. No condition. -/
import Derived.Test.YtokoadgahflafaaGreatDoorKSoftThroughDoublePxBr
import Derived.Test.YtokoadgahflafaaGreatDoorKSoftThroughDoubleGM
import Derived.Test.YtokoadgahflafaaGreatDoorKSoftThroughDoublePxMul
import Derived.Test.YtokoadgahflafaaGreatDoorKSoftThroughDoublePxR0
section
set_option linter.unusedVariables false
namespace Go.Proofs.YtokoadgahflafaaGreatDoor.PLib
open Go Go.RowKit Go.Proofs.YtokoadgahflafaaGreatDoorW.PrintWords Go.Proofs.YtokoadgahflafaaGreatDoorW.PrintMore Go.Proofs.YtokoadgahflafaaGreatDoor.Given Go.Proofs.YtokoadgahflafaaGreatDoor.Px
def natdiv_root.l0 : Nat → List Int → List Int → Option (List Int)
 | 0, _, _ => none
 | k + 1, x0, x4 => (natdiv_QuoRem.f x0 x4).bind fun bt1 => ((nat_Add.f x4 bt1.1).bind fun bt2 => ((nat_Shr.f bt2.1 1).bind fun bt3 => ((nat_Cmp.f bt3.1 x4).bind fun t4 => (if t4 ≥ 0 then (some x4) else (natdiv_root.l0 k x0 bt3.1)))))
def natdiv_root.f (k : Nat) (l0 : List Int) : Option (List Int) := (nat_Bits.f l0).bind fun t1 => (if t1 = 0 then (some ([] : List Int)) else (if t1 ≤ 64 then ((nat_Word.f 1).bind fun t2 => ((nat_Shl.f t2 (wrap64 (Int.tdiv (wrap64 (t1 + 1)) 2))).bind fun bt3 => (natdiv_root.l0 k l0 bt3.1))) else ((nat_Shr.f l0 (wrap64 (2 * (wrap64 (Int.tdiv t1 4))))).bind fun bt2 => ((natdiv_rootA.f k bt2.1).bind fun t3 => ((nat_Word.f 1).bind fun t4 => ((nat_Add.f t3 t4).bind fun bt5 => ((nat_Shl.f bt5.1 (wrap64 (Int.tdiv t1 4))).bind fun bt6 => (natdiv_root.l0 k l0 bt6.1))))))))
theorem natdiv_root.mono_l : ∀ k, (∀ y0 y1, LeO (natdiv_root.l0 k y0 y1) (natdiv_root.l0 (k + 1) y0 y1))
 | 0 => fun _ _ r h => by simp [natdiv_root.l0] at h
 | k + 1 => by
  have ih0 := natdiv_root.mono_l k
  intro y0 y1
  unfold natdiv_root.l0
  repeat' first
  | (with_reducible exact ih0 _ _)
  | (with_reducible exact LeO.refl _)
  | (with_reducible exact LeO.none _)
  | (with_reducible refine LeO.ite ?_ ?_)
  | (with_reducible refine LeO.bind ?_ (fun _ => ?_))
theorem natdiv_root.mono : ∀ a0 k, LeO (natdiv_root.f k a0) (natdiv_root.f (k + 1) a0) := by
 intro a0 k
 have ih0 := natdiv_root.mono_l k
 unfold natdiv_root.f
 repeat' first
  | (with_reducible exact natdiv_rootA.mono _ _)
  | (with_reducible exact ih0 _ _)
  | (with_reducible exact LeO.refl _)
  | (with_reducible exact LeO.none _)
  | (with_reducible refine LeO.ite ?_ ?_)
  | (with_reducible refine LeO.bind ?_ (fun _ => ?_))
theorem natdiv_root.jc : ∀ k : Nat, (∀ (x0 : List Int) (x4 : List Int) (r : List Int), natdiv_root.l0 k x0 x4 = some r → Fin Tryz.prog Gw 166 (nav (bodyOf Tryz.f166) [1, 1, 1, 1, 1, 0, 0] []) ⟨mkT 73 [(0, .s (.sl .u64 x0)), (4, .s (.sl .u64 x4))], []⟩ (· = .s (.sl .u64 r)))
 | 0 => (fun _ _ _ h => nn h)
 | k + 1 => by
  have ih := natdiv_root.jc k
  ·intro x0 x4 r h
   rw [natdiv_root.l0] at h
   obtain ⟨bt1, A1, h⟩ := bnd h
   obtain ⟨bt2, A2, h⟩ := bnd h
   obtain ⟨bt3, A3, h⟩ := bnd h
   obtain ⟨t4, A4, h⟩ := bnd h
   rcases ite_e h with ⟨c5, h⟩ | ⟨c5, h⟩
   ·have h := si h; subst h
    exact jth Tryz.func166 [.r (.tu [.s (.sl .u64 bt1.1), .s (.sl .u64 bt1.2.1), .s (.i .i64 bt1.2.2)]), .r (.tu [.s (.sl .u64 bt2.1), .s (.i .i64 bt2.2)]), .r (.tu [.s (.sl .u64 bt3.1), .s (.i .i64 bt3.2)]), .r (.s (.i .i64 t4)), .br true] (fun e => ai (natdiv_QuoRem.c A1) (ai (nat_Add.c A2) (ai (nat_Shr.c A3) (ai (nat_Cmp.c A4) (ai (d1 c5) e))))) (by kernel_rfl)
   ·exact jth Tryz.func166 [.r (.tu [.s (.sl .u64 bt1.1), .s (.sl .u64 bt1.2.1), .s (.i .i64 bt1.2.2)]), .r (.tu [.s (.sl .u64 bt2.1), .s (.i .i64 bt2.2)]), .r (.tu [.s (.sl .u64 bt3.1), .s (.i .i64 bt3.2)]), .r (.s (.i .i64 t4)), .br false, .cut 1 [0, 4] [] []] (fun _ => ai (natdiv_QuoRem.c A1) (ai (nat_Add.c A2) (ai (nat_Shr.c A3) (ai (nat_Cmp.c A4) (ai (d0 c5) (ih _ _ _ h)))))) (by kernel_rfl)
theorem natdiv_root.c {k : Nat} {l0 : List Int} {r : List Int} (h : natdiv_root.f k l0 = some r) : Con Tryz.prog Gw 166 [.s (.sl .u64 l0)] (· = .s (.sl .u64 r)) := by
 unfold natdiv_root.f at h
 obtain ⟨t1, A1, h⟩ := bnd h
 rcases ite_e h with ⟨c2, h⟩ | ⟨c2, h⟩
 ·have h := si h; subst h
  exact pth Tryz.func166 [.r (.s (.i .i64 t1)), .br true] (fun e => ai (nat_Bits.c A1) (ai (q1 c2) e)) (by kernel_rfl)
 ·rcases ite_e h with ⟨c3, h⟩ | ⟨c3, h⟩
  ·obtain ⟨t2, A4, h⟩ := bnd h
   obtain ⟨bt3, A5, h⟩ := bnd h
   exact pth Tryz.func166 [.r (.s (.i .i64 t1)), .br false, .br true, .r (.s (.sl .u64 t2)), .r (.tu [.s (.sl .u64 bt3.1), .s (.i .i64 bt3.2)]), .cut 0 [0, 4] [] []] (fun _ => ai (nat_Bits.c A1) (ai (q0 c2) (ai (d1 c3) (ai (nat_Word.c A4) (ai (by decide : (2 : Int) ≠ 0) (ai (nat_Shl.c A5) (natdiv_root.jc k _ _ _ h))))))) (by kernel_rfl)
  ·obtain ⟨bt2, A6, h⟩ := bnd h
   obtain ⟨t3, A7, h⟩ := bnd h
   obtain ⟨t4, A8, h⟩ := bnd h
   obtain ⟨bt5, A9, h⟩ := bnd h
   obtain ⟨bt6, A10, h⟩ := bnd h
   exact pth Tryz.func166 [.r (.s (.i .i64 t1)), .br false, .br false, .r (.tu [.s (.sl .u64 bt2.1), .s (.i .i64 bt2.2)]), .r (.s (.sl .u64 t3)), .r (.s (.sl .u64 t4)), .r (.tu [.s (.sl .u64 bt5.1), .s (.i .i64 bt5.2)]), .r (.tu [.s (.sl .u64 bt6.1), .s (.i .i64 bt6.2)]), .cut 0 [0, 4] [] []] (fun _ => ai (nat_Bits.c A1) (ai (q0 c2) (ai (d0 c3) (ai (by decide : (4 : Int) ≠ 0) (ai (nat_Shr.c A6) (ai (natdiv_rootA.c A7) (ai (nat_Word.c A8) (ai (nat_Add.c A9) (ai (nat_Shl.c A10) (natdiv_root.jc k _ _ _ h)))))))))) (by kernel_rfl)
def natmul_Sqr.f (l0 : List Int) : Option (List Int × Int) := (natmul_Mul.f l0 l0).bind fun bt1 => (some (bt1.1, bt1.2))
theorem natmul_Sqr.c {l0 : List Int} {r : List Int × Int} (h : natmul_Sqr.f l0 = some r) : Con Tryz.prog Gw 167 [.s (.sl .u64 l0)] (· = .tu [.s (.sl .u64 r.1), .s (.i .i64 r.2)]) := by
 unfold natmul_Sqr.f at h
 obtain ⟨bt1, A1, h⟩ := bnd h
 have h := si h; subst h
 exact pth Tryz.func167 [.r (.tu [.s (.sl .u64 bt1.1), .s (.i .i64 bt1.2)])] (fun e => ai (natmul_Mul.c A1) e) (by kernel_rfl)
def natdiv_Root.f (k : Nat) (l0 : List Int) : Option (List Int × List Int × Int) := (nat_Form.f l0).bind fun t1 => (if t1 = true then ((natdiv_root.f k l0).bind fun t2 => ((natmul_Sqr.f t2).bind fun bt3 => ((nat_Sub.f l0 bt3.1).bind fun bt4 => (some (t2, bt4.1, 0))))) else (some (([] : List Int), ([] : List Int), 2)))
theorem natdiv_Root.mono : ∀ a0 k, LeO (natdiv_Root.f k a0) (natdiv_Root.f (k + 1) a0) := by
 intro a0 k
 unfold natdiv_Root.f
 repeat' first
  | (with_reducible exact natdiv_root.mono _ _)
  | (with_reducible exact LeO.refl _)
  | (with_reducible exact LeO.none _)
  | (with_reducible refine LeO.ite ?_ ?_)
  | (with_reducible refine LeO.bind ?_ (fun _ => ?_))
theorem natdiv_Root.c {k : Nat} {l0 : List Int} {r : List Int × List Int × Int} (h : natdiv_Root.f k l0 = some r) : Con Tryz.prog Gw 123 [.s (.sl .u64 l0)] (· = .tu [.s (.sl .u64 r.1), .s (.sl .u64 r.2.1), .s (.i .i64 r.2.2)]) := by
 unfold natdiv_Root.f at h
 obtain ⟨t1, A1, h⟩ := bnd h
 rcases ite_e h with ⟨c2, h⟩ | ⟨c2, h⟩
 ·obtain ⟨t2, A3, h⟩ := bnd h
  obtain ⟨bt3, A4, h⟩ := bnd h
  obtain ⟨bt4, A5, h⟩ := bnd h
  have h := si h; subst h
  exact pth Tryz.func123 [.r (.s (.b t1)), .br false, .r (.s (.sl .u64 t2)), .r (.tu [.s (.sl .u64 bt3.1), .s (.i .i64 bt3.2)]), .r (.tu [.s (.sl .u64 bt4.1), .s (.i .i64 bt4.2)])] (fun e => ai (nat_Form.c A1) (ai (nt1 c2) (ai (natdiv_root.c A3) (ai (natmul_Sqr.c A4) (ai (nat_Sub.c A5) e))))) (by kernel_rfl)
 ·have h := si h; subst h
  exact pth Tryz.func123 [.r (.s (.b t1)), .br true] (fun e => ai (nat_Form.c A1) (ai (nt0 (z0 c2)) e)) (by kernel_rfl)
end Go.Proofs.YtokoadgahflafaaGreatDoor.PLib
end
section
set_option linter.unusedVariables false
namespace Go.Proofs.YtokoadgahflafaaGreatDoor.Px
open Go Go.RowKit Go.Proofs.YtokoadgahflafaaGreatDoorW.PrintWords Go.Proofs.YtokoadgahflafaaGreatDoorW.PrintMore
inductive Opd where
 | nan
 | inf (n : Bool)
 | nou (n : Bool)
 | num (n : Bool) (l : List Int) (x : Int)
def opT : Opd → TypeId
 | .nan => 144
 | .inf _ => 95
 | .nou _ => 94
 | .num _ _ _ => 88
def opL : Opd → List IC
 | .nan => []
 | .inf n => [.b n]
 | .nou n => [.b n]
 | .num n l x => [.b n, .sl .u64 l, .i .i64 x]
def opm {α : Type} (x : Opd) (a : α) (b c : Bool → α) (d : Bool → List Int → Int → α) : α :=
 match x with
 | .nan => a
 | .inf n => b n
 | .nou n => c n
 | .num n l x => d n l x
theorem opm_e {α : Type} {x : Opd} {a : Option α} {b c : Bool → Option α} {d : Bool → List Int → Int → Option α} {r : α} (h : opm x a b c d = some r) :
  (x = .nan ∧ a = some r) ∨ (∃ n, x = .inf n ∧ b n = some r) ∨ (∃ n, x = .nou n ∧ c n = some r) ∨ (∃ n l y, x = .num n l y ∧ d n l y = some r) := by
 cases x with
 | nan => exact .inl ⟨rfl, h⟩
 | inf n => exact .inr (.inl ⟨n, rfl, h⟩)
 | nou n => exact .inr (.inr (.inl ⟨n, rfl, h⟩))
 | num n l y => exact .inr (.inr (.inr ⟨n, l, y, rfl, h⟩))
theorem op_e {x y : Opd} (h : x = y) : (PV.s (.ifc (opT x) (opL x))) = .s (.ifc (opT y) (opL y)) := by rw [h]
theorem LeO.opm {α : Type} {x : Opd} {a a' : Option α} {b c b' c' : Bool → Option α} {d d' : Bool → List Int → Int → Option α} (h1 : LeO a a') (h2 : ∀ n, LeO (b n) (b' n)) (h3 : ∀ n, LeO (c n) (c' n)) (h4 : ∀ n l y, LeO (d n l y) (d' n l y)) :
  LeO (opm x a b c d) (opm x a' b' c' d') := by
 cases x with
 | nan => exact h1
 | inf n => exact h2 n
 | nou n => exact h3 n
 | num n l y => exact h4 n l y
end Go.Proofs.YtokoadgahflafaaGreatDoor.Px
end
