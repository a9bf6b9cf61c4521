/- nat.DivWord as a given function: plain, and its contract by Px. Conditions: a list in form, at most 8192 limbs; the divisor not nought; math/bits' table is laid. Functions of the program as plain Lean functions (definitions as the print's), and that the machine's calls do what they do (contracts 'X.c', by Px). Condition: math/bits' table is laid. -/
import Derived.Test.YtokoadgahflafaaGreatDoorKSoftThroughDoubleGM
import Derived.Test.YtokoadgahflafaaGreatDoorKSoftThroughDoubleDv
import Derived.Test.YtokoadgahflafaaGreatDoorKSoftThroughDoubleGiven
import Derived.Test.YtokoadgahflafaaGreatDoorKSoftThroughDoublePxBr
import Derived.Test.YtokoadgahflafaaGreatDoorKSoftThroughDoublePxMul
section
set_option linter.unusedVariables false
namespace Go.Proofs.YtokoadgahflafaaGreatDoor.Given
open Go Go.RowKit Go.Proofs.YtokoadgahflafaaGreatDoorW.PrintWords Go.Proofs.YtokoadgahflafaaGreatDoorW.PrintMore Go.Proofs.YtokoadgahflafaaGreatDoor.Px Go.Proofs.YtokoadgahflafaaGreatDoor.GTab Go.Proofs.YtokoadgahflafaaGreatDoor.GTh Go.Proofs.YtokoadgahflafaaGreatDoor.GM
theorem divC (y : Nat) (hy : y < 18446744073709551616) : DivC y := by
 intro hi lo w hT h1 h2
 obtain ⟨k, hk⟩ := (Dv.div64_ev hi lo y hy h1 h2).rounds
 have c := PLib.bits_Div64.c hk
 refine (c.2 w (fun _ => False) [.int .u64 (hi : Int), .int .u64 (lo : Int), .int .u64 (y : Int)] hT (fun _ h => h.elim) (.cons rfl (.cons rfl (.cons rfl .nil)))).mono fun e w' ⟨v, x, he, hx, hr, hb⟩ => ?_
 subst hx
 obtain ⟨vs, rfl, hv⟩ := hr
 cases hv with
 | cons a1 hv =>
 cases hv with
 | cons a2 hv =>
 cases hv
 obtain rfl := a1
 obtain rfl := a2
 exact ⟨he, hb⟩
def nat_DivWord.f (l0 : List Int) (a1 : Int) : Option (List Int × Int × Int) := if fmL l0 = true ∧ 0 < a1 ∧ a1 < 18446744073709551616 then some (lb (vL l0 / a1.toNat), ((vL l0 % a1.toNat : Nat) : Int), 0) else none
theorem nat_DivWord.c {l0 : List Int} {a1 : Int} {r : List Int × Int × Int} (h : nat_DivWord.f l0 a1 = some r) : Con Tryz.prog Gw 158 [.s (.sl .u64 l0), .s (.i .u64 a1)] (· = .tu [.s (.sl .u64 r.1), .s (.i .u64 r.2.1), .s (.i .i64 r.2.2)]) := by
 unfold nat_DivWord.f at h
 split at h
 ·rename_i c
  have h := Option.some.inj h
  subst h
  refine brg Tryz.func158 (by kernel_rfl) fun w S vs gw hS vs_ => ?_
  obtain ⟨A0, c0, u0, rfl, hc0, hr0, v0⟩ := a_sl vs_
  obtain ⟨u1, rfl, v1⟩ := a_i v0
  obtain rfl := a_nil v1
  obtain ⟨h1, h2, h3⟩ := fmL_iff.1 c.1
  obtain ⟨y, rfl⟩ : ∃ y : Nat, a1 = (y : Int) := ⟨a1.toNat, by have := c.2.1; omega⟩
  rw [Int.toNat_natCast]
  have run := divWord_any w A0 c0 (vL l0) y (nt_of hr0 hc0 c.1) (by omega) (by omega) (divC y (by omega)) gw
  rw [← h2] at run
  refine run.mono fun e w' ⟨v, he, ha⟩ => ?_
  obtain ⟨hR, hb⟩ := R_of ha
  exact ⟨_, _, he, rfl, ⟨[v, _, _], rfl, .cons (ofR hR hS) (.cons rfl (.cons rfl .nil))⟩, hb⟩
 ·cases h
end Go.Proofs.YtokoadgahflafaaGreatDoor.Given
end
section
set_option linter.unusedVariables false
namespace Go.Proofs.YtokoadgahflafaaGreatDoor.PLib
open Go Go.RowKit Go.Proofs.YtokoadgahflafaaGreatDoorW.PrintWords Go.Proofs.YtokoadgahflafaaGreatDoorW.PrintMore Go.Proofs.YtokoadgahflafaaGreatDoor.Given Go.Proofs.YtokoadgahflafaaGreatDoor.Px
def nat_Form.f (l0 : List Int) : Option (Bool) := if (l0.length : Int) ≤ 8192 then (if (l0.length : Int) = 0 then (some true) else (if 0 ≤ (wrap64 ((l0.length : Int) - 1)) then (if (wrap64 ((l0.length : Int) - 1)) < (l0.length : Int) then (some ((rd l0 (wrap64 ((l0.length : Int) - 1))) != 0)) else (none)) else (none))) else (some false)
theorem nat_Form.c {l0 : List Int} {r : Bool} (h : nat_Form.f l0 = some r) : Con Tryz.prog Gw 154 [.s (.sl .u64 l0)] (· = .s (.b r)) := by
 unfold nat_Form.f at h
 rcases ite_e h with ⟨c1, h⟩ | ⟨c1, h⟩
 ·rcases ite_e h with ⟨c2, h⟩ | ⟨c2, h⟩
  ·have h := si h; subst h
   exact pth Tryz.func154 [.br true, .br true, .br true, .br true, .br true, .br true, .br true, .br true, .br true, .br true, .br true, .br true, .br true, .br true] (fun e => ai (d1 c1) (ai (d1 c1) (ai (d1 c1) (ai (d1 c1) (ai (q1 c2) (ai (q1 c2) (ai (q1 c2) (ai (q1 c2) (ai (q1 c2) (ai (q1 c2) (ai (q1 c2) (ai (d1 c1) (ai (q1 c2) (ai (d1 c1) e)))))))))))))) (by kernel_rfl)
  ·rcases ite_e h with ⟨c3, h⟩ | ⟨c3, h⟩
   ·rcases ite_e h with ⟨c4, h⟩ | ⟨c4, h⟩
    ·have h := si h; subst h
     exact pth Tryz.func154 [.br true, .br true, .br true, .br true, .br false, .br false, .br false, .br false, .br false, .br false, .br false, .br true, .br false, .br true] (fun e => ai (d1 c1) (ai (d1 c1) (ai (d1 c1) (ai (d1 c1) (ai (q0 c2) (ai (q0 c2) (ai (q0 c2) (ai (q0 c2) (ai (q0 c2) (ai c3 (ai c4 (ai (q0 c2) (ai (q0 c2) (ai (d1 c1) (ai (q0 c2) (ai (d1 c1) e)))))))))))))))) (by kernel_rfl)
    ·cases h
   ·cases h
 ·have h := si h; subst h
  exact pth Tryz.func154 [.br false, .br false, .br false, .br false, .br false, .br false] (fun e => ai (d0 c1) (ai (d0 c1) (ai (d0 c1) (ai (d0 c1) (ai (d0 c1) (ai (d0 c1) e)))))) (by kernel_rfl)
def nat_Word.f (a0 : Int) : Option (List Int) := if a0 = 0 then (some ([] : List Int)) else (some (([a0] : List Int)))
theorem nat_Word.c {a0 : Int} {r : List Int} (h : nat_Word.f a0 = some r) : Con Tryz.prog Gw 159 [.s (.i .u64 a0)] (· = .s (.sl .u64 r)) := by
 unfold nat_Word.f at h
 rcases ite_e h with ⟨c1, h⟩ | ⟨c1, h⟩
 ·have h := si h; subst h
  exact pth Tryz.func159 [.br true] (fun e => ai (q1 c1) e) (by kernel_rfl)
 ·have h := si h; subst h
  exact pth Tryz.func159 [.br false] (fun e => ai (q0 c1) e) (by kernel_rfl)
def natdiv_QuoRem.f (l0 : List Int) (l1 : List Int) : Option (List Int × List Int × Int) := (nat_Form.f l0).bind fun t1 => (if t1 = true then ((nat_Form.f l1).bind fun t2 => (if t2 = true then (if (l1.length : Int) = 0 then (some (([] : List Int), ([] : List Int), 4)) else ((nat_Cmp.f l0 l1).bind fun t3 => (if t3 < 0 then (none) else (if (l1.length : Int) = 1 then (if 0 < (l1.length : Int) then ((nat_DivWord.f l0 (rd l1 0)).bind fun bt5 => ((nat_Word.f bt5.2.1).bind fun t6 => (some (bt5.1, t6, 0)))) else (none)) else (if 0 ≤ wrap64 ((l1.length : Int) - 1) then (if wrap64 ((l1.length : Int) - 1) < (l1.length : Int) then (none) else (none)) else (none)))))) else (some (([] : List Int), ([] : List Int), 2)))) else (some (([] : List Int), ([] : List Int), 2)))
theorem natdiv_QuoRem.c {l0 : List Int} {l1 : List Int} {r : List Int × List Int × Int} (h : natdiv_QuoRem.f l0 l1 = some r) : Con Tryz.prog Gw 119 [.s (.sl .u64 l0), .s (.sl .u64 l1)] (· = .tu [.s (.sl .u64 r.1), .s (.sl .u64 r.2.1), .s (.i .i64 r.2.2)]) := by
 unfold natdiv_QuoRem.f at h
 obtain ⟨t1, A1, h⟩ := bnd h
 rcases ite_e h with ⟨c2, h⟩ | ⟨c2, h⟩
 ·obtain ⟨t2, A3, h⟩ := bnd h
  rcases ite_e h with ⟨c4, h⟩ | ⟨c4, h⟩
  ·rcases ite_e h with ⟨c5, h⟩ | ⟨c5, h⟩
   ·have h := si h; subst h
    exact pth Tryz.func119 [.r (.s (.b t1)), .br false, .br false, .r (.s (.b t2)), .br false, .br false, .br false, .br true] (fun e => ai (nat_Form.c A1) (ai (nt1 c2) (ai (nt1 c2) (ai (nat_Form.c A3) (ai (nt1 c2) (ai (nt1 c2) (ai (nt1 c4) (ai (q1 c5) e)))))))) (by kernel_rfl)
   ·obtain ⟨t3, A6, h⟩ := bnd h
    rcases ite_e h with ⟨c7, h⟩ | ⟨c7, h⟩
    ·cases h
    ·rcases ite_e h with ⟨c8, h⟩ | ⟨c8, h⟩
     ·rcases ite_e h with ⟨c9, h⟩ | ⟨c9, h⟩
      ·obtain ⟨bt5, A10, h⟩ := bnd h
       obtain ⟨t6, A11, h⟩ := bnd h
       have h := si h; subst h
       exact pth Tryz.func119 [.r (.s (.b t1)), .br false, .br false, .r (.s (.b t2)), .br false, .br false, .br false, .br false, .r (.s (.i .i64 t3)), .br false, .br true, .r (.tu [.s (.sl .u64 bt5.1), .s (.i .u64 bt5.2.1), .s (.i .i64 bt5.2.2)]), .r (.s (.sl .u64 t6))] (fun e => ai (nat_Form.c A1) (ai (nt1 c2) (ai (nt1 c2) (ai (nat_Form.c A3) (ai (nt1 c2) (ai (nt1 c2) (ai (nt1 c4) (ai (q0 c5) (ai (nat_Cmp.c A6) (ai (d0 c7) (ai (q1 c8) (ai (by decide : (0 : Int) ≤ 0) (ai c9 (ai (nat_DivWord.c A10) (ai (nat_Word.c A11) e))))))))))))))) (by kernel_rfl)
      ·cases h
     ·rcases ite_e h with ⟨c12, h⟩ | ⟨c12, h⟩
      ·rcases ite_e h with ⟨c13, h⟩ | ⟨c13, h⟩
       ·cases h
       ·cases h
      ·cases h
  ·have h := si h; subst h
   exact pth Tryz.func119 [.r (.s (.b t1)), .br false, .br false, .r (.s (.b t2)), .br false, .br false, .br true] (fun e => ai (nat_Form.c A1) (ai (nt1 c2) (ai (nt1 c2) (ai (nat_Form.c A3) (ai (nt1 c2) (ai (nt1 c2) (ai (nt0 (z0 c4)) e))))))) (by kernel_rfl)
 ·have h := si h; subst h
  exact pth Tryz.func119 [.r (.s (.b t1)), .br true, .br true, .br true, .br true, .br true] (fun e => ai (nat_Form.c A1) (ai (nt0 (z0 c2)) (ai (nt0 (z0 c2)) (ai (nt0 (z0 c2)) (ai (nt0 (z0 c2)) (ai tt e)))))) (by kernel_rfl)
def natdiv_rootA.l0 : Nat → List Int → List Int → Option (List Int)
 | 0, _, _ => none
 | k + 1, x0, x4 => (natdiv_QuoRem.f x0 x4).bind fun bt1 => ((nat_Add.f x4 bt1.1).bind fun bt2 => ((nat_Shr.f bt2.1 1).bind fun bt3 => ((nat_Cmp.f bt3.1 x4).bind fun t4 => (if t4 ≥ 0 then (some x4) else (natdiv_rootA.l0 k x0 bt3.1)))))
def natdiv_rootA.f (k : Nat) (l0 : List Int) : Option (List Int) := (nat_Bits.f l0).bind fun t1 => (if t1 = 0 then (some ([] : List Int)) else (if t1 ≤ 64 then ((nat_Word.f 1).bind fun t2 => ((nat_Shl.f t2 (wrap64 (Int.tdiv (wrap64 (t1 + 1)) 2))).bind fun bt3 => (natdiv_rootA.l0 k l0 bt3.1))) else (none)))
theorem natdiv_rootA.mono_l : ∀ k, (∀ y0 y1, LeO (natdiv_rootA.l0 k y0 y1) (natdiv_rootA.l0 (k + 1) y0 y1))
 | 0 => fun _ _ r h => by simp [natdiv_rootA.l0] at h
 | k + 1 => by
  have ih0 := natdiv_rootA.mono_l k
  intro y0 y1
  unfold natdiv_rootA.l0
  repeat' first
  | (with_reducible exact ih0 _ _)
  | (with_reducible exact LeO.refl _)
  | (with_reducible exact LeO.none _)
  | (with_reducible refine LeO.ite ?_ ?_)
  | (with_reducible refine LeO.bind ?_ (fun _ => ?_))
theorem natdiv_rootA.mono : ∀ a0 k, LeO (natdiv_rootA.f k a0) (natdiv_rootA.f (k + 1) a0) := by
 intro a0 k
 have ih0 := natdiv_rootA.mono_l k
 unfold natdiv_rootA.f
 repeat' first
  | (with_reducible exact ih0 _ _)
  | (with_reducible exact LeO.refl _)
  | (with_reducible exact LeO.none _)
  | (with_reducible refine LeO.ite ?_ ?_)
  | (with_reducible refine LeO.bind ?_ (fun _ => ?_))
theorem natdiv_rootA.jc : ∀ k : Nat, (∀ (x0 : List Int) (x4 : List Int) (r : List Int), natdiv_rootA.l0 k x0 x4 = some r → Fin Tryz.prog Gw 166 (nav (bodyOf Tryz.f166) [1, 1, 1, 1, 1, 0, 0] []) ⟨mkT 73 [(0, .s (.sl .u64 x0)), (4, .s (.sl .u64 x4))], []⟩ (· = .s (.sl .u64 r)))
 | 0 => (fun _ _ _ h => nn h)
 | k + 1 => by
  have ih := natdiv_rootA.jc k
  ·intro x0 x4 r h
   rw [natdiv_rootA.l0] at h
   obtain ⟨bt1, A1, h⟩ := bnd h
   obtain ⟨bt2, A2, h⟩ := bnd h
   obtain ⟨bt3, A3, h⟩ := bnd h
   obtain ⟨t4, A4, h⟩ := bnd h
   rcases ite_e h with ⟨c5, h⟩ | ⟨c5, h⟩
   ·have h := si h; subst h
    exact jth Tryz.func166 [.r (.tu [.s (.sl .u64 bt1.1), .s (.sl .u64 bt1.2.1), .s (.i .i64 bt1.2.2)]), .r (.tu [.s (.sl .u64 bt2.1), .s (.i .i64 bt2.2)]), .r (.tu [.s (.sl .u64 bt3.1), .s (.i .i64 bt3.2)]), .r (.s (.i .i64 t4)), .br true] (fun e => ai (natdiv_QuoRem.c A1) (ai (nat_Add.c A2) (ai (nat_Shr.c A3) (ai (nat_Cmp.c A4) (ai (d1 c5) e))))) (by kernel_rfl)
   ·exact jth Tryz.func166 [.r (.tu [.s (.sl .u64 bt1.1), .s (.sl .u64 bt1.2.1), .s (.i .i64 bt1.2.2)]), .r (.tu [.s (.sl .u64 bt2.1), .s (.i .i64 bt2.2)]), .r (.tu [.s (.sl .u64 bt3.1), .s (.i .i64 bt3.2)]), .r (.s (.i .i64 t4)), .br false, .cut 1 [0, 4] [] []] (fun _ => ai (natdiv_QuoRem.c A1) (ai (nat_Add.c A2) (ai (nat_Shr.c A3) (ai (nat_Cmp.c A4) (ai (d0 c5) (ih _ _ _ h)))))) (by kernel_rfl)
theorem natdiv_rootA.c {k : Nat} {l0 : List Int} {r : List Int} (h : natdiv_rootA.f k l0 = some r) : Con Tryz.prog Gw 166 [.s (.sl .u64 l0)] (· = .s (.sl .u64 r)) := by
 unfold natdiv_rootA.f at h
 obtain ⟨t1, A1, h⟩ := bnd h
 rcases ite_e h with ⟨c2, h⟩ | ⟨c2, h⟩
 ·have h := si h; subst h
  exact pth Tryz.func166 [.r (.s (.i .i64 t1)), .br true] (fun e => ai (nat_Bits.c A1) (ai (q1 c2) e)) (by kernel_rfl)
 ·rcases ite_e h with ⟨c3, h⟩ | ⟨c3, h⟩
  ·obtain ⟨t2, A4, h⟩ := bnd h
   obtain ⟨bt3, A5, h⟩ := bnd h
   exact pth Tryz.func166 [.r (.s (.i .i64 t1)), .br false, .br true, .r (.s (.sl .u64 t2)), .r (.tu [.s (.sl .u64 bt3.1), .s (.i .i64 bt3.2)]), .cut 0 [0, 4] [] []] (fun _ => ai (nat_Bits.c A1) (ai (q0 c2) (ai (d1 c3) (ai (nat_Word.c A4) (ai (by decide : (2 : Int) ≠ 0) (ai (nat_Shl.c A5) (natdiv_rootA.jc k _ _ _ h))))))) (by kernel_rfl)
  ·cases h
end Go.Proofs.YtokoadgahflafaaGreatDoor.PLib
end
