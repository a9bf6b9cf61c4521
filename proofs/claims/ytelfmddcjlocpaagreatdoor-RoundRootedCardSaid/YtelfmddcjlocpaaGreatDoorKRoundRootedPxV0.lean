/- natmul.Mul, natdiv.QuoRem and natdiv.Root as given functions of any length: plain, and their contracts by Px. Conditions: lists in form; the divisor not nought; a root of at most 8000 limbs; math/bits' table is laid. Functions of the program as plain Lean functions (definitions as the print's), and that the machine's calls do what they do (contracts 'X.c', by Px). Condition: math/bits' table is laid. -/
import Derived.Test.YtelfmddcjlocpaaGreatDoorKRoundRootedGRu
import Derived.Test.YtelfmddcjlocpaaGreatDoorKRoundRootedPxTz
import Derived.Test.YtelfmddcjlocpaaGreatDoorKRoundRootedGivenD
import Derived.Test.YtelfmddcjlocpaaGreatDoorKRoundRootedPxL0
import Derived.Test.YtelfmddcjlocpaaGreatDoorKRoundRootedPxL1
import Derived.Test.YtelfmddcjlocpaaGreatDoorKRoundRootedPRefx0
import Derived.Test.YtelfmddcjlocpaaGreatDoorKRoundRootedPxQ0
import Derived.Test.YtelfmddcjlocpaaGreatDoorKRoundRootedPRfzx0
import Derived.Test.YtelfmddcjlocpaaGreatDoorKRoundRootedPxRfz
import Derived.Test.YtelfmddcjlocpaaGreatDoorKRoundRootedPxA
import Derived.Laws.CopyOwn
import Derived.Laws.MakeOwn
section
set_option linter.unusedVariables false
namespace Go.Proofs.YtelfmddcjlocpaaGreatDoor.Given
open Go Go.RowKit Go.Proofs.YtelfmddcjlocpaaGreatDoorW.PrintWords Go.Proofs.YtelfmddcjlocpaaGreatDoorW.PrintMore Go.Proofs.YtelfmddcjlocpaaGreatDoor.Px Go.Proofs.YtelfmddcjlocpaaGreatDoor.GTab Go.Proofs.YtelfmddcjlocpaaGreatDoor.GTh Go.Proofs.YtelfmddcjlocpaaGreatDoor.GA Go.Proofs.YtelfmddcjlocpaaGreatDoor.GC Go.Proofs.YtelfmddcjlocpaaGreatDoor.GU Go.Proofs.YtelfmddcjlocpaaGreatDoor.GY Go.Proofs.YtelfmddcjlocpaaGreatDoor.GZ Go.Proofs.YtelfmddcjlocpaaGreatDoor.GRt Go.Proofs.YtelfmddcjlocpaaGreatDoor.GRu
theorem res_rep {w w' : World} {v : Value} {x : Nat} {S : Nat → Prop} (h : Res w w' v x) (hS : ∀ b, S b → b < w.heap.size) (hx : nl x ≤ 8192) : RepC w' S none' (.sl .u64 (lb x)) v := by
 obtain ⟨⟨A, c, rfl, n, f⟩⟩ := h
 refine ⟨A, c, by rw [lb_len], by rw [lb_len]; exact n.cap, ?_⟩
 by_cases h0 : nl x = 0
 ·left
  rw [nl_eq_zero.1 h0, lb_nil]
 ·right
  rcases n.row with ⟨_, e, _⟩ | ⟨G, o, rfl, r⟩
  ·exact absurd e h0
  refine ⟨G, o, rfl, ⟨fun hs => ?_, by rw [lb_len]; omega⟩, fun j d hj => ?_⟩
  ·have h1 := hS _ hs
   rcases f with f | f
   ·exact h0 f
   ·have := f G o rfl; omega
  ·have hj2 : j < nl x := by
    have := (List.getElem?_eq_some_iff.1 hj).1
    rwa [lb_len] at this
   rw [lb_at hj2] at hj
   obtain rfl := Option.some.inj hj
   exact r.cell j hj2
def natmul_Mul.f (l0 l1 : List Int) : Option (List Int × Int) := if fmL l0 = true ∧ fmL l1 = true ∧ nl (vL l0 * vL l1) ≤ 8192 then some (lb (vL l0 * vL l1), 0) else none
theorem natmul_Mul.c {l0 l1 : List Int} {r : List Int × Int} (h : natmul_Mul.f l0 l1 = some r) : Con Tryz.prog Gw 90 [.s (.sl .u64 l0), .s (.sl .u64 l1)] (· = .tu [.s (.sl .u64 r.1), .s (.i .i64 r.2)]) := by
 unfold natmul_Mul.f at h
 split at h
 ·rename_i c
  have h := Option.some.inj h
  subst h
  refine brg Tryz.func90 (by kernel_rfl) fun w S vs gw hS vs_ => ?_
  obtain ⟨A0, c0, u0, rfl, hc0, hr0, v0⟩ := a_sl vs_
  obtain ⟨A1, c1, u1, rfl, hc1, hr1, v1⟩ := a_sl v0
  obtain rfl := a_nil v1
  obtain ⟨h1, h2, h3⟩ := fmL_iff.1 c.1
  obtain ⟨k1, k2, k3⟩ := fmL_iff.1 c.2.1
  have run := mul_all w A0 A1 c0 c1 (vL l0) (vL l1) (nt_of hr0 hc0 c.1) (nt_of hr1 hc1 c.2.1) (by omega) (by omega) c.2.2
  rw [← h2, ← k2] at run
  refine run.mono fun e w' ⟨v, he, ha⟩ => ?_
  obtain ⟨hR, hb⟩ := res_ant ha
  exact ⟨_, _, he, rfl, ⟨[v, _], rfl, .cons (res_rep hR hS c.2.2) (.cons rfl .nil)⟩, hb⟩
 ·cases h
def natdiv_Root.f (l0 : List Int) : Option (List Int × List Int × Int) := if fmL l0 = true ∧ l0.length ≤ 8000 then some (lb (isq (vL l0)), lb (vL l0 - isq (vL l0) * isq (vL l0)), 0) else none
theorem natdiv_Root.c {l0 : List Int} {r : List Int × List Int × Int} (h : natdiv_Root.f l0 = some r) : Con Tryz.prog Gw 51 [.s (.sl .u64 l0)] (· = .tu [.s (.sl .u64 r.1), .s (.sl .u64 r.2.1), .s (.i .i64 r.2.2)]) := by
 unfold natdiv_Root.f at h
 split at h
 ·rename_i c
  have h := Option.some.inj h
  subst h
  refine brg Tryz.func51 (by kernel_rfl) fun w S vs gw hS vs_ => ?_
  obtain ⟨A0, c0, u0, rfl, hc0, hr0, v0⟩ := a_sl vs_
  obtain rfl := a_nil v0
  obtain ⟨h1, h2, h3⟩ := fmL_iff.1 c.1
  have l0' : nl (vL l0) ≤ 8000 := by have := c.2; omega
  have run := root_any w A0 c0 (vL l0) (nt_of hr0 hc0 c.1) l0' gw
  rw [← h2] at run
  refine run.mono fun e w' ⟨v, r, he, hq, hr, hb⟩ => ?_
  have hF := isq_spec (vL l0)
  exact ⟨_, _, he, rfl, ⟨[v, r, _], rfl, .cons (res_rep hq hS (Nat.le_trans (nl_mono (Nat.le_trans (Nat.le_mul_self _) hF.1)) (by omega))) (.cons (res_rep hr hS (Nat.le_trans (nl_mono (Nat.sub_le _ _)) (by omega))) (.cons rfl .nil))⟩, hb⟩
 ·cases h
end Go.Proofs.YtelfmddcjlocpaaGreatDoor.Given
end
section
set_option linter.unusedVariables false
namespace Go.Proofs.YtelfmddcjlocpaaGreatDoor.PLib
open Go Go.RowKit Go.Proofs.YtelfmddcjlocpaaGreatDoorW.PrintWords Go.Proofs.YtelfmddcjlocpaaGreatDoorW.PrintMore Go.Proofs.YtelfmddcjlocpaaGreatDoor.Given Go.Proofs.YtelfmddcjlocpaaGreatDoor.Px Go.Proofs.YtelfmddcjlocpaaGreatDoor.PRef Go.Proofs.YtelfmddcjlocpaaGreatDoor.PRfz
def round_long.f (a0_0 : Bool) (l0_1 : List Int) (a0_2 : Int) : Option (Bool) := some (decide ((l0_1.length : Int) > 4096))
theorem round_long.c {a0_0 : Bool} {l0_1 : List Int} {a0_2 : Int} {r : Bool} (h : round_long.f a0_0 l0_1 a0_2 = some r) : Con Tryz.prog Gw 35 [.ag [.b a0_0, .sl .u64 l0_1, .i .i64 a0_2]] (· = .s (.b r)) := by
 unfold round_long.f at h
 have h := si h; subst h
 exact pth Tryz.func35 [] (fun e => e) (by kernel_rfl)
def round_sticky.f (l0 : List Int) (l1 : List Int) : Option (List Int) := (nat_Shl.f l0 1).bind fun bt1 => (if (l1.length : Int) > 0 then ((nat_Word.f 1).bind fun t2 => ((nat_Add.f bt1.1 t2).bind fun bt3 => (some bt3.1))) else (some bt1.1))
theorem round_sticky.c {l0 : List Int} {l1 : List Int} {r : List Int} (h : round_sticky.f l0 l1 = some r) : Con Tryz.prog Gw 41 [.s (.sl .u64 l0), .s (.sl .u64 l1)] (· = .s (.sl .u64 r)) := by
 unfold round_sticky.f at h
 obtain ⟨bt1, A1, h⟩ := bnd h
 rcases ite_e h with ⟨c2, h⟩ | ⟨c2, h⟩
 ·obtain ⟨t2, A3, h⟩ := bnd h
  obtain ⟨bt3, A4, h⟩ := bnd h
  have h := si h; subst h
  exact pth Tryz.func41 [.r (.tu [.s (.sl .u64 bt1.1), .s (.i .i64 bt1.2)]), .br true, .r (.s (.sl .u64 t2)), .r (.tu [.s (.sl .u64 bt3.1), .s (.i .i64 bt3.2)])] (fun e => ai (nat_Shl.c A1) (ai (d1 c2) (ai (nat_Word.c A3) (ai (nat_Add.c A4) e)))) (by kernel_rfl)
 ·have h := si h; subst h
  exact pth Tryz.func41 [.r (.tu [.s (.sl .u64 bt1.1), .s (.i .i64 bt1.2)]), .br false] (fun e => ai (nat_Shl.c A1) (ai (d0 c2) e)) (by kernel_rfl)
def round_Root.f (k : Nat) (a0 : Int) (a1_0 : Bool) (l1_1 : List Int) (a1_2 : Int) : Option (Int × Int) := (round_of.f a0).bind fun bt1 => (if (bt1.1 == 0 && (bt1.2.1 == 0 && (bt1.2.2 == 0))) = true then (some (0, 1)) else ((dyadic_Form.f k a1_0 l1_1 a1_2).bind fun t2 => (if t2 = true then (if a1_0 = true then (some (0, 3)) else ((round_long.f a1_0 l1_1 a1_2).bind fun t3 => (if t3 = true then (some (0, 5)) else (if (l1_1.length : Int) = 0 then (some (0, 0)) else ((nat_Bits.f l1_1).bind fun t4 => (if (Int.tmod (wrap64 (a1_2 - (mx 0 (wrap64 ((wrap64 ((wrap64 (2 * bt1.1)) + 6)) - t4))))) 2) = 0 then ((nat_Shl.f l1_1 (mx 0 (wrap64 ((wrap64 ((wrap64 (2 * bt1.1)) + 6)) - t4)))).bind fun bt5 => ((natdiv_Root.f bt5.1).bind fun bt6 => ((round_sticky.f bt6.1 bt6.2.1).bind fun t7 => ((round_widths_size.f k bt1.1 bt1.2.1 bt1.2.2 t7 (wrap64 ((wrap64 (Int.tdiv (wrap64 (a1_2 - (mx 0 (wrap64 ((wrap64 ((wrap64 (2 * bt1.1)) + 6)) - t4))))) 2)) - 1))).bind fun t8 => (some (t8, 0)))))) else ((nat_Shl.f l1_1 (wrap64 ((mx 0 (wrap64 ((wrap64 ((wrap64 (2 * bt1.1)) + 6)) - t4))) + 1))).bind fun bt9 => ((natdiv_Root.f bt9.1).bind fun bt10 => ((round_sticky.f bt10.1 bt10.2.1).bind fun t11 => ((round_widths_size.f k bt1.1 bt1.2.1 bt1.2.2 t11 (wrap64 ((wrap64 (Int.tdiv (wrap64 (a1_2 - (wrap64 ((mx 0 (wrap64 ((wrap64 ((wrap64 (2 * bt1.1)) + 6)) - t4))) + 1)))) 2)) - 1))).bind fun t12 => (some (t12, 0)))))))))))) else (some (0, 2)))))
theorem round_Root.mono : ∀ a0 a1 a2 a3 k, LeO (round_Root.f k a0 a1 a2 a3) (round_Root.f (k + 1) a0 a1 a2 a3) := by
 intro a0 a1 a2 a3 k
 unfold round_Root.f
 repeat' first
  | (with_reducible exact dyadic_Form.mono _ _ _ _)
  | (with_reducible exact round_widths_size.mono _ _ _ _ _ _)
  | (with_reducible exact LeO.refl _)
  | (with_reducible exact LeO.none _)
  | (with_reducible refine LeO.ite ?_ ?_)
  | (with_reducible refine LeO.bind ?_ (fun _ => ?_))
theorem round_Root.c {k : Nat} {a0 : Int} {a1_0 : Bool} {l1_1 : List Int} {a1_2 : Int} {r : Int × Int} (h : round_Root.f k a0 a1_0 l1_1 a1_2 = some r) : Con Tryz.prog Gw 23 [.s (.i .i64 a0), .ag [.b a1_0, .sl .u64 l1_1, .i .i64 a1_2]] (· = .tu [.s (.i .u64 r.1), .s (.i .i64 r.2)]) := by
 unfold round_Root.f at h
 obtain ⟨bt1, A1, h⟩ := bnd h
 rcases ite_e h with ⟨c2, h⟩ | ⟨c2, h⟩
 ·have h := si h; subst h
  exact pth Tryz.func23 [.r (.ag [.i .i64 bt1.1, .i .i64 bt1.2.1, .i .i64 bt1.2.2]), .br true] (fun e => ai (round_of.c A1) (ai c2 e)) (by kernel_rfl)
 ·obtain ⟨t2, A3, h⟩ := bnd h
  rcases ite_e h with ⟨c4, h⟩ | ⟨c4, h⟩
  ·rcases ite_e h with ⟨c5, h⟩ | ⟨c5, h⟩
   ·have h := si h; subst h
    exact pth Tryz.func23 [.r (.ag [.i .i64 bt1.1, .i .i64 bt1.2.1, .i .i64 bt1.2.2]), .br false, .r (.s (.b t2)), .br false, .br true] (fun e => ai (round_of.c A1) (ai (z0 c2) (ai (dyadic_Form.c A3) (ai (nt1 c4) (ai c5 e))))) (by kernel_rfl)
   ·obtain ⟨t3, A6, h⟩ := bnd h
    rcases ite_e h with ⟨c7, h⟩ | ⟨c7, h⟩
    ·have h := si h; subst h
     exact pth Tryz.func23 [.r (.ag [.i .i64 bt1.1, .i .i64 bt1.2.1, .i .i64 bt1.2.2]), .br false, .r (.s (.b t2)), .br false, .br false, .r (.s (.b t3)), .br true] (fun e => ai (round_of.c A1) (ai (z0 c2) (ai (dyadic_Form.c A3) (ai (nt1 c4) (ai (z0 c5) (ai (round_long.c A6) (ai c7 e))))))) (by kernel_rfl)
    ·rcases ite_e h with ⟨c8, h⟩ | ⟨c8, h⟩
     ·have h := si h; subst h
      exact pth Tryz.func23 [.r (.ag [.i .i64 bt1.1, .i .i64 bt1.2.1, .i .i64 bt1.2.2]), .br false, .r (.s (.b t2)), .br false, .br false, .r (.s (.b t3)), .br false, .br true] (fun e => ai (round_of.c A1) (ai (z0 c2) (ai (dyadic_Form.c A3) (ai (nt1 c4) (ai (z0 c5) (ai (round_long.c A6) (ai (z0 c7) (ai (q1 c8) e)))))))) (by kernel_rfl)
     ·obtain ⟨t4, A9, h⟩ := bnd h
      rcases ite_e h with ⟨c10, h⟩ | ⟨c10, h⟩
      ·obtain ⟨bt5, A11, h⟩ := bnd h
       obtain ⟨bt6, A12, h⟩ := bnd h
       obtain ⟨t7, A13, h⟩ := bnd h
       obtain ⟨t8, A14, h⟩ := bnd h
       have h := si h; subst h
       exact pth Tryz.func23 [.r (.ag [.i .i64 bt1.1, .i .i64 bt1.2.1, .i .i64 bt1.2.2]), .br false, .r (.s (.b t2)), .br false, .br false, .r (.s (.b t3)), .br false, .br false, .r (.s (.i .i64 t4)), .br false, .r (.tu [.s (.sl .u64 bt5.1), .s (.i .i64 bt5.2)]), .r (.tu [.s (.sl .u64 bt6.1), .s (.sl .u64 bt6.2.1), .s (.i .i64 bt6.2.2)]), .r (.s (.sl .u64 t7)), .r (.s (.i .u64 t8))] (fun e => ai (round_of.c A1) (ai (z0 c2) (ai (dyadic_Form.c A3) (ai (nt1 c4) (ai (z0 c5) (ai (round_long.c A6) (ai (z0 c7) (ai (q0 c8) (ai (nat_Bits.c A9) (ai (by decide : (2 : Int) ≠ 0) (ai (n0 c10) (ai (nat_Shl.c A11) (ai (natdiv_Root.c A12) (ai (round_sticky.c A13) (ai (by decide : (2 : Int) ≠ 0) (ai (round_widths_size.c A14) e)))))))))))))))) (by kernel_rfl)
      ·obtain ⟨bt9, A15, h⟩ := bnd h
       obtain ⟨bt10, A16, h⟩ := bnd h
       obtain ⟨t11, A17, h⟩ := bnd h
       obtain ⟨t12, A18, h⟩ := bnd h
       have h := si h; subst h
       exact pth Tryz.func23 [.r (.ag [.i .i64 bt1.1, .i .i64 bt1.2.1, .i .i64 bt1.2.2]), .br false, .r (.s (.b t2)), .br false, .br false, .r (.s (.b t3)), .br false, .br false, .r (.s (.i .i64 t4)), .br true, .r (.tu [.s (.sl .u64 bt9.1), .s (.i .i64 bt9.2)]), .r (.tu [.s (.sl .u64 bt10.1), .s (.sl .u64 bt10.2.1), .s (.i .i64 bt10.2.2)]), .r (.s (.sl .u64 t11)), .r (.s (.i .u64 t12))] (fun e => ai (round_of.c A1) (ai (z0 c2) (ai (dyadic_Form.c A3) (ai (nt1 c4) (ai (z0 c5) (ai (round_long.c A6) (ai (z0 c7) (ai (q0 c8) (ai (nat_Bits.c A9) (ai (by decide : (2 : Int) ≠ 0) (ai (n1 c10) (ai (nat_Shl.c A15) (ai (natdiv_Root.c A16) (ai (round_sticky.c A17) (ai (by decide : (2 : Int) ≠ 0) (ai (round_widths_size.c A18) e)))))))))))))))) (by kernel_rfl)
  ·have h := si h; subst h
   exact pth Tryz.func23 [.r (.ag [.i .i64 bt1.1, .i .i64 bt1.2.1, .i .i64 bt1.2.2]), .br false, .r (.s (.b t2)), .br true] (fun e => ai (round_of.c A1) (ai (z0 c2) (ai (dyadic_Form.c A3) (ai (nt0 (z0 c4)) e)))) (by kernel_rfl)
def gnomonref08_check.f (k : Nat) (a0 : Int) (a1_0 : Bool) (l1_1 : List Int) (a1_2 : Int) (a2_0 : Bool) (l2_1 : List Int) (a2_2 : Int) : Option (Int) := (gnomonref07_Of.f a0).bind fun bt1 => (if bt1.2.2.2.2.2.2 = true then ((gnomonref05_DocForm.f k a1_0 l1_1 a1_2).bind fun t2 => (if t2 = true then ((gnomonref05_DocForm.f k a2_0 l2_1 a2_2).bind fun t3 => (if t3 = true then (some 0) else (some 2))) else (some 2))) else (some 1))
theorem gnomonref08_check.mono : ∀ a0 a1 a2 a3 a4 a5 a6 k, LeO (gnomonref08_check.f k a0 a1 a2 a3 a4 a5 a6) (gnomonref08_check.f (k + 1) a0 a1 a2 a3 a4 a5 a6) := by
 intro a0 a1 a2 a3 a4 a5 a6 k
 unfold gnomonref08_check.f
 repeat' first
  | (with_reducible exact gnomonref05_DocForm.mono _ _ _ _)
  | (with_reducible exact LeO.refl _)
  | (with_reducible exact LeO.none _)
  | (with_reducible refine LeO.ite ?_ ?_)
  | (with_reducible refine LeO.bind ?_ (fun _ => ?_))
theorem gnomonref08_check.c {k : Nat} {a0 : Int} {a1_0 : Bool} {l1_1 : List Int} {a1_2 : Int} {a2_0 : Bool} {l2_1 : List Int} {a2_2 : Int} {r : Int} (h : gnomonref08_check.f k a0 a1_0 l1_1 a1_2 a2_0 l2_1 a2_2 = some r) : Con Tryz.prog Gw 152 [.s (.i .i64 a0), .ag [.b a1_0, .sl .u64 l1_1, .i .i64 a1_2], .ag [.b a2_0, .sl .u64 l2_1, .i .i64 a2_2]] (· = .s (.i .i64 r)) := by
 unfold gnomonref08_check.f at h
 obtain ⟨bt1, A1, h⟩ := bnd h
 rcases ite_e h with ⟨c2, h⟩ | ⟨c2, h⟩
 ·obtain ⟨t2, A3, h⟩ := bnd h
  rcases ite_e h with ⟨c4, h⟩ | ⟨c4, h⟩
  ·obtain ⟨t3, A5, h⟩ := bnd h
   rcases ite_e h with ⟨c6, h⟩ | ⟨c6, h⟩
   ·have h := si h; subst h
    exact pth Tryz.func152 [.r (.tu [.ag [.i .u64 bt1.1, .i .i64 bt1.2.1, .i .i64 bt1.2.2.1, .i .i64 bt1.2.2.2.1, .i .u64 bt1.2.2.2.2.1, .i .u64 bt1.2.2.2.2.2.1], .s (.b bt1.2.2.2.2.2.2)]), .br false, .r (.s (.b t2)), .br false, .br false, .r (.s (.b t3)), .br false, .br false, .br false] (fun e => ai (gnomonref07_Of.c A1) (ai (nt1 c2) (ai (gnomonref05_DocForm.c A3) (ai (nt1 c4) (ai (nt1 c4) (ai (gnomonref05_DocForm.c A5) (ai (nt1 c4) (ai (nt1 c4) (ai (nt1 c6) e))))))))) (by kernel_rfl)
   ·have h := si h; subst h
    exact pth Tryz.func152 [.r (.tu [.ag [.i .u64 bt1.1, .i .i64 bt1.2.1, .i .i64 bt1.2.2.1, .i .i64 bt1.2.2.2.1, .i .u64 bt1.2.2.2.2.1, .i .u64 bt1.2.2.2.2.2.1], .s (.b bt1.2.2.2.2.2.2)]), .br false, .r (.s (.b t2)), .br false, .br false, .r (.s (.b t3)), .br false, .br false, .br true] (fun e => ai (gnomonref07_Of.c A1) (ai (nt1 c2) (ai (gnomonref05_DocForm.c A3) (ai (nt1 c4) (ai (nt1 c4) (ai (gnomonref05_DocForm.c A5) (ai (nt1 c4) (ai (nt1 c4) (ai (nt0 (z0 c6)) e))))))))) (by kernel_rfl)
  ·have h := si h; subst h
   exact pth Tryz.func152 [.r (.tu [.ag [.i .u64 bt1.1, .i .i64 bt1.2.1, .i .i64 bt1.2.2.1, .i .i64 bt1.2.2.2.1, .i .u64 bt1.2.2.2.2.1, .i .u64 bt1.2.2.2.2.2.1], .s (.b bt1.2.2.2.2.2.2)]), .br false, .r (.s (.b t2)), .br true, .br true, .br true, .br true, .br true] (fun e => ai (gnomonref07_Of.c A1) (ai (nt1 c2) (ai (gnomonref05_DocForm.c A3) (ai (nt0 (z0 c4)) (ai (nt0 (z0 c4)) (ai (nt0 (z0 c4)) (ai (nt0 (z0 c4)) (ai tt e)))))))) (by kernel_rfl)
 ·have h := si h; subst h
  exact pth Tryz.func152 [.r (.tu [.ag [.i .u64 bt1.1, .i .i64 bt1.2.1, .i .i64 bt1.2.2.1, .i .i64 bt1.2.2.2.1, .i .u64 bt1.2.2.2.2.1, .i .u64 bt1.2.2.2.2.2.1], .s (.b bt1.2.2.2.2.2.2)]), .br true] (fun e => ai (gnomonref07_Of.c A1) (ai (nt0 (z0 c2)) e)) (by kernel_rfl)
def gnomonref08_long.f (a0_0 : Bool) (l0_1 : List Int) (a0_2 : Int) : Option (Bool) := some (decide ((l0_1.length : Int) > 4096))
theorem gnomonref08_long.c {a0_0 : Bool} {l0_1 : List Int} {a0_2 : Int} {r : Bool} (h : gnomonref08_long.f a0_0 l0_1 a0_2 = some r) : Con Tryz.prog Gw 153 [.ag [.b a0_0, .sl .u64 l0_1, .i .i64 a0_2]] (· = .s (.b r)) := by
 unfold gnomonref08_long.f at h
 have h := si h; subst h
 exact pth Tryz.func153 [] (fun e => e) (by kernel_rfl)
def gnomonref08_DocRoot.f (k : Nat) (a0 : Int) (a1_0 : Bool) (l1_1 : List Int) (a1_2 : Int) : Option (Int × Int) := (gnomonref08_check.f k a0 a1_0 l1_1 a1_2 a1_0 l1_1 a1_2).bind fun t1 => (if t1 = 0 then (if a1_0 = true then (some (0, 3)) else ((gnomonref08_long.f a1_0 l1_1 a1_2).bind fun t2 => (if t2 = true then (some (0, 5)) else ((gnomonref05_Nought.f a1_0 l1_1 a1_2).bind fun t3 => (if t3 = true then (some (0, 0)) else ((gnomonref07_Of.f a0).bind fun bt4 => ((gnomonref01_From.f k l1_1).bind fun t5 => ((gnomonref01_Word.f k 1).bind fun t6 => ((gnomonref08_Size.f k bt4.1 bt4.2.1 bt4.2.2.1 bt4.2.2.2.1 bt4.2.2.2.2.1 bt4.2.2.2.2.2.1 t5 t6 a1_2 true).bind fun t7 => (some (t7, 0))))))))))) else (some (0, t1)))
theorem gnomonref08_DocRoot.mono : ∀ a0 a1 a2 a3 k, LeO (gnomonref08_DocRoot.f k a0 a1 a2 a3) (gnomonref08_DocRoot.f (k + 1) a0 a1 a2 a3) := by
 intro a0 a1 a2 a3 k
 unfold gnomonref08_DocRoot.f
 repeat' first
  | (with_reducible exact gnomonref01_From.mono _ _)
  | (with_reducible exact gnomonref01_Word.mono _ _)
  | (with_reducible exact gnomonref08_Size.mono _ _ _ _ _ _ _ _ _ _ _)
  | (with_reducible exact gnomonref08_check.mono _ _ _ _ _ _ _ _)
  | (with_reducible exact LeO.refl _)
  | (with_reducible exact LeO.none _)
  | (with_reducible refine LeO.ite ?_ ?_)
  | (with_reducible refine LeO.bind ?_ (fun _ => ?_))
theorem gnomonref08_DocRoot.c {k : Nat} {a0 : Int} {a1_0 : Bool} {l1_1 : List Int} {a1_2 : Int} {r : Int × Int} (h : gnomonref08_DocRoot.f k a0 a1_0 l1_1 a1_2 = some r) : Con Tryz.prog Gw 116 [.s (.i .i64 a0), .ag [.b a1_0, .sl .u64 l1_1, .i .i64 a1_2]] (· = .tu [.s (.i .u64 r.1), .s (.i .i64 r.2)]) := by
 unfold gnomonref08_DocRoot.f at h
 obtain ⟨t1, A1, h⟩ := bnd h
 rcases ite_e h with ⟨c2, h⟩ | ⟨c2, h⟩
 ·rcases ite_e h with ⟨c3, h⟩ | ⟨c3, h⟩
  ·have h := si h; subst h
   exact pth Tryz.func116 [.r (.s (.i .i64 t1)), .br false, .br true] (fun e => ai (gnomonref08_check.c A1) (ai (n0 c2) (ai c3 e))) (by kernel_rfl)
  ·obtain ⟨t2, A4, h⟩ := bnd h
   rcases ite_e h with ⟨c5, h⟩ | ⟨c5, h⟩
   ·have h := si h; subst h
    exact pth Tryz.func116 [.r (.s (.i .i64 t1)), .br false, .br false, .r (.s (.b t2)), .br true] (fun e => ai (gnomonref08_check.c A1) (ai (n0 c2) (ai (z0 c3) (ai (gnomonref08_long.c A4) (ai c5 e))))) (by kernel_rfl)
   ·obtain ⟨t3, A6, h⟩ := bnd h
    rcases ite_e h with ⟨c7, h⟩ | ⟨c7, h⟩
    ·have h := si h; subst h
     exact pth Tryz.func116 [.r (.s (.i .i64 t1)), .br false, .br false, .r (.s (.b t2)), .br false, .r (.s (.b t3)), .br true] (fun e => ai (gnomonref08_check.c A1) (ai (n0 c2) (ai (z0 c3) (ai (gnomonref08_long.c A4) (ai (z0 c5) (ai (gnomonref05_Nought.c A6) (ai c7 e))))))) (by kernel_rfl)
    ·obtain ⟨bt4, A8, h⟩ := bnd h
     obtain ⟨t5, A9, h⟩ := bnd h
     obtain ⟨t6, A10, h⟩ := bnd h
     obtain ⟨t7, A11, h⟩ := bnd h
     have h := si h; subst h
     exact pth Tryz.func116 [.r (.s (.i .i64 t1)), .br false, .br false, .r (.s (.b t2)), .br false, .r (.s (.b t3)), .br false, .r (.tu [.ag [.i .u64 bt4.1, .i .i64 bt4.2.1, .i .i64 bt4.2.2.1, .i .i64 bt4.2.2.2.1, .i .u64 bt4.2.2.2.2.1, .i .u64 bt4.2.2.2.2.2.1], .s (.b bt4.2.2.2.2.2.2)]), .r (.s (.sl .u32 t5)), .r (.s (.sl .u32 t6)), .r (.s (.i .u64 t7))] (fun e => ai (gnomonref08_check.c A1) (ai (n0 c2) (ai (z0 c3) (ai (gnomonref08_long.c A4) (ai (z0 c5) (ai (gnomonref05_Nought.c A6) (ai (z0 c7) (ai (gnomonref07_Of.c A8) (ai (gnomonref01_From.c A9) (ai (gnomonref01_Word.c A10) (ai (gnomonref08_Size.c A11) e))))))))))) (by kernel_rfl)
 ·have h := si h; subst h
  exact pth Tryz.func116 [.r (.s (.i .i64 t1)), .br true] (fun e => ai (gnomonref08_check.c A1) (ai (n1 c2) e)) (by kernel_rfl)
end Go.Proofs.YtelfmddcjlocpaaGreatDoor.PLib
end
