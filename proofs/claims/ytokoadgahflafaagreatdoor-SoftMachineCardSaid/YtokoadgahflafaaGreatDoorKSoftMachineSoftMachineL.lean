/- The float operations of the walk: what an operation on binary64 words gives is the valid result, or some NaN where there is none. No condition. What SoftMachine reaches: the machine's own operation beside layer 9's. Condition: words. SoftMachine: the machine's sums, differences, products, quotients and order are layer 9's. Condition: words. -/
import Derived.Test.YtokoadgahflafaaGreatDoorKSoftMachineFl
import Derived.WalkKit
import Derived.WalkLawsBesides
import Derived.Laws.Externs
import Derived.Deep.Draws
import Derived.Test.YtokoadgahflafaaGreatDoorKSoftMachineMach3
import Derived.Test.YtokoadgahflafaaGreatDoorKSoftMachinePxBr
import Derived.OwnWalk
import Derived.Tactics2
import Derived.Test.YtokoadgahflafaaGreatDoorKSoftMachinePxL2
import Derived.Test.YtokoadgahflafaaGreatDoorKSoftMachinePxL3
import Derived.Test.YtokoadgahflafaaGreatDoorKSoftMachinePxL4
section
namespace Go.Proofs.YtokoadgahflafaaGreatDoor.FW
open Go.RowKit
structure Drew (w w' : World) : Prop where mk :: (out : ∃ n, w' = w.drewN n)
theorem Drew.refl (w : World) : Drew w w := ⟨⟨0, rfl⟩⟩
theorem Drew.trans {w w1 w2 : World} (h : Drew w w1) (k : Drew w1 w2) : Drew w w2 := by
 obtain ⟨n, rfl⟩ := h.out
 obtain ⟨m, rfl⟩ := k.out
 exact ⟨⟨n + m, World.drewN_drewN ..⟩⟩
theorem Drew.below {w w' : World} (h : Drew w w') : Below w.heap.size w w' := by
 obtain ⟨n, rfl⟩ := h.out
 have core : ∀ n, Below w.heap.size w (w.drewN n) := by
  intro n
  induction n with
  | zero => exact Below.refl _ _
  | succ n ih => rw [← World.drew_drewN]; exact ih.drew
 exact core n
theorem Drew.to_below {w0 w w' : World} (h0 : Below w0.heap.size w0 w) (h : Drew w w') : Below w0.heap.size w0 w' := by
 obtain ⟨n, rfl⟩ := h.out
 have core : ∀ n, Below w0.heap.size w0 (w.drewN n) := by
  intro n
  induction n with
  | zero => exact h0
  | succ n ih => rw [← World.drew_drewN]; exact ih.drew
 exact core n
structure FOp (op : BinOp) (x y r : Nat) : Prop where mk :: (lt : r < 18446744073709551616) (val : ∀ v, floatBits op .f64 x y = some v → r = v) (nan : floatBits op .f64 x y = none → 9218868437227405312 < r % 9223372036854775808)
theorem nan_cut (x y t : Nat) : (Question.nanBits .f64 x y).cut t < 18446744073709551616 ∧ 9218868437227405312 < (Question.nanBits .f64 x y).cut t % 9223372036854775808 := by
 show (t % 2) * 2 ^ 63 + 0x7ff0000000000000 + 1 + (t / 2) % (2 ^ 52 - 1) < _ ∧ _ < ((t % 2) * 2 ^ 63 + 0x7ff0000000000000 + 1 + (t / 2) % (2 ^ 52 - 1)) % _
 have h1 := Nat.mod_lt t (show 0 < 2 by decide)
 have h2 := Nat.mod_lt (t / 2) (show 0 < 2 ^ 52 - 1 by decide)
 generalize t / 2 % (2 ^ 52 - 1) = m at *
 generalize t % 2 = s at *
 omega
theorem run_fop {P : Program} (op : BinOp) (t : TypeId) (x y : Nat) (w : World) (h : op = .add ∨ op = .sub ∨ op = .mul ∨ op = .quo) :
  ∃ r w', (binOp op t (.float .f64 x) (.float .f64 y)).run P w = .ok (.float .f64 r) w' ∧ FOp op x y r ∧ Drew w w' := by
 have hf : (Question.nanBits FloatKind.f64 x y).forced = false := rfl
 rcases hb : floatBits op FloatKind.f64 x y with _ | r
 ·refine ⟨(Question.nanBits .f64 x y).cut (w.tape w.drawn (.nanBits .f64 x y)), w.drew, ?_, ⟨(nan_cut _ _ _).1, fun v hv => by (rw [hb] at hv; cases hv), fun _ => (nan_cut _ _ _).2⟩, ⟨⟨1, rfl⟩⟩⟩
  rcases h with rfl | rfl | rfl | rfl
  all_goals
   unfold floatBits at hb
   simp [binOp, Op.floatArith, hb, hf]
 ·refine ⟨r, w, run_float_arith w op t .f64 x y r hb, ⟨?_, fun v hv => by (rw [hb] at hv; injection hv), fun hn => by (rw [hb] at hn; cases hn)⟩, Drew.refl w⟩
  have := floatBits_wf hb
  simpa [Lit.wf] using this
end Go.Proofs.YtokoadgahflafaaGreatDoor.FW
end
section
set_option linter.unusedVariables false
namespace Go.Proofs.YtokoadgahflafaaGreatDoor.GMach
open Go Go.RowKit Go.Proofs.YtokoadgahflafaaGreatDoorW.PrintWords Go.Proofs.YtokoadgahflafaaGreatDoorW.PrintMore Go.Proofs.YtokoadgahflafaaGreatDoor.Px Go.Proofs.YtokoadgahflafaaGreatDoor.PLib Go.Proofs.YtokoadgahflafaaGreatDoor.FW Go.Proofs.YtokoadgahflafaaGreatDoor.Mach Go.Proofs.YtokoadgahflafaaGreatDoor.Rp4 Go.Proofs.YtokoadgahflafaaGreatDoor.Sf1 Go.Proofs.YtokoadgahflafaaGreatDoor.Sf2 Go.Proofs.YtokoadgahflafaaGreatDoor.Sf5 Go.Proofs.YtokoadgahflafaaGreatDoor.Sf6 Go.Proofs.YtokoadgahflafaaGreatDoor.Ref
open Ieee
theorem sm_from (n : Int) (w : World) : (callFunc 43 #[.int .u64 n]).run Tryz.prog w = .ok (.value (.float .f64 n.toNat)) w := by
 rw [run_callFunc_extern (P := Tryz.prog) (f := 43) (fn := Tryz.f43) (e := Extern.MathFloatBits.float64frombits) (by kernel_rfl) (by kernel_rfl) (by kernel_rfl) (by kernel_rfl) (by kernel_rfl)]
 rfl
theorem sm_bits (b : Nat) (w : World) : (callFunc 81 #[.float .f64 b]).run Tryz.prog w = .ok (.value (.int .u64 b)) w := by
 rw [run_callFunc_extern (P := Tryz.prog) (f := 81) (fn := Tryz.f81) (e := Extern.MathFloatBits.float64bits) (by kernel_rfl) (by kernel_rfl) (by kernel_rfl) (by kernel_rfl) (by kernel_rfl)]
 rfl
theorem machine_any (b : Nat) (hb : b < 18446744073709551616) (w : World) : Calls Tryz.prog 44 #[.float .f64 b] w fun e w' => e = .returned (.int .u64 ((mach b : Nat) : Int)) ∧ w' = w := by
 have ho := order_self hb
 have hq := sm_bits
 by_cases c : 9218868437227405312 < b % 9223372036854775808
 ·rw [if_pos c] at ho
  have q : (FloatKind.f64.format.order b b != some .eq) = true := by
   show (double.order b b != some .eq) = true
   rw [ho]; rfl
  have m : mach b = 9221120237041090561 := by unfold mach; rw [if_pos c]
  rw [m]
  clear ho c m
  go_enter Tryz.func44, Tryz.ntmps44
  go_wp2_with fail
  go_ret
  exact ⟨rfl, rfl⟩
 ·rw [if_neg c] at ho
  have q : (FloatKind.f64.format.order b b != some .eq) = false := by
   show (double.order b b != some .eq) = false
   rw [ho]; rfl
  have m : mach b = b := by unfold mach; rw [if_neg c]
  rw [m]
  clear ho c m
  go_enter Tryz.func44, Tryz.ntmps44
  go_wp2_with fail
  go_ret
  exact ⟨rfl, rfl⟩
theorem two_call {f : FuncId} {args : List PV} {vs : List Value} {k1 k2 : IntKind} {x s : Int} (c : Con Tryz.prog Gw f args (· = .tu [.s (.i k1 x), .s (.i k2 s)])) (w : World) (gw : Gw w) (hv : All2 (RepV w (fun _ => False) none') args vs) :
  Calls Tryz.prog f vs.toArray w fun e w' => e = .returned (.tuple #[.int k1 x, .int k2 s]) ∧ Below w.heap.size w w' := by
 refine (c.2 w (fun _ => False) vs gw (fun _ h => h.elim) hv).mono fun e w' ⟨v, x, he, hx, hr, hb⟩ => ?_
 subst hx
 obtain ⟨vs, rfl, hv⟩ := hr
 cases hv with
 | cons a1 hv =>
 cases hv with
 | cons a2 hv =>
 cases hv
 obtain rfl := a1
 obtain rfl := a2
 exact ⟨he, hb⟩
section
variable (a b : Nat) (ha : a < 18446744073709551616) (hb : b < 18446744073709551616)
include ha hb
theorem s_add : ∃ t : Nat, (∀ r, FOp .add a b r → mach r = t) ∧ ∀ w, Gw w → Calls Tryz.prog 16 #[.int .i64 64, .int .u64 (a : Int), .int .u64 (b : Int)] w fun e w' => e = .returned (.tuple #[.int .u64 (t : Int), .int .i64 0]) ∧ Below w.heap.size w w' := by
 obtain ⟨k, hk⟩ := (add_ev fD_ ha hb).rounds
 exact ⟨_, fun r h => add_m ha hb h.val h.nan, fun w gw => two_call (vs := [.int .i64 64, .int .u64 (a : Int), .int .u64 (b : Int)]) (soft_Add.c hk) w gw (.cons rfl (.cons rfl (.cons rfl .nil)))⟩
theorem s_sub : ∃ t : Nat, (∀ r, FOp .sub a b r → mach r = t) ∧ ∀ w, Gw w → Calls Tryz.prog 17 #[.int .i64 64, .int .u64 (a : Int), .int .u64 (b : Int)] w fun e w' => e = .returned (.tuple #[.int .u64 (t : Int), .int .i64 0]) ∧ Below w.heap.size w w' := by
 obtain ⟨k, hk⟩ := (sub_ev fD_ ha hb).rounds
 exact ⟨_, fun r h => sub_m ha hb h.val h.nan, fun w gw => two_call (vs := [.int .i64 64, .int .u64 (a : Int), .int .u64 (b : Int)]) (soft_Sub.c hk) w gw (.cons rfl (.cons rfl (.cons rfl .nil)))⟩
theorem s_mul : ∃ t : Nat, (∀ r, FOp .mul a b r → mach r = t) ∧ ∀ w, Gw w → Calls Tryz.prog 18 #[.int .i64 64, .int .u64 (a : Int), .int .u64 (b : Int)] w fun e w' => e = .returned (.tuple #[.int .u64 (t : Int), .int .i64 0]) ∧ Below w.heap.size w w' := by
 obtain ⟨k, hk⟩ := (mul_ev fD_ ha hb).rounds
 exact ⟨_, fun r h => mul_m ha hb h.val h.nan, fun w gw => two_call (vs := [.int .i64 64, .int .u64 (a : Int), .int .u64 (b : Int)]) (soft_Mul.c hk) w gw (.cons rfl (.cons rfl (.cons rfl .nil)))⟩
theorem s_div : ∃ t : Nat, (∀ r, FOp .quo a b r → mach r = t) ∧ ∀ w, Gw w → Calls Tryz.prog 19 #[.int .i64 64, .int .u64 (a : Int), .int .u64 (b : Int)] w fun e w' => e = .returned (.tuple #[.int .u64 (t : Int), .int .i64 0]) ∧ Below w.heap.size w w' := by
 obtain ⟨t, ht, ev⟩ := div_ev fD_ ha hb
 obtain ⟨k, hk⟩ := ev.rounds
 exact ⟨t, fun r h => div_m ha hb h.val h.nan ht, fun w gw => two_call (vs := [.int .i64 64, .int .u64 (a : Int), .int .u64 (b : Int)]) (soft_Div.c hk) w gw (.cons rfl (.cons rfl (.cons rfl .nil)))⟩
theorem s_cmp : ∃ c : Int, double.order a b = ordC c ∧ (c = 2 ∨ c = -1 ∨ c = 0 ∨ c = 1) ∧ ∀ w, Gw w → Calls Tryz.prog 24 #[.int .i64 64, .int .u64 (a : Int), .int .u64 (b : Int)] w fun e w' => e = .returned (.tuple #[.int .i64 c, .int .i64 0]) ∧ Below w.heap.size w w' := by
 obtain ⟨k, hk⟩ := (compare_ev fD_ ha hb).rounds
 refine ⟨_, order_B ha hb, ?_, fun w gw => two_call (vs := [.int .i64 64, .int .u64 (a : Int), .int .u64 (b : Int)]) (soft_Compare.c hk) w gw (.cons rfl (.cons rfl (.cons rfl .nil)))⟩
 unfold cmpB cmZ
 split
 ·exact .inl rfl
 ·split
  ·exact .inr (.inl rfl)
  ·split
   ·exact .inr (.inr (.inr rfl))
   ·exact .inr (.inr (.inl rfl))
end
theorem s_awake (w : World) (gw : Gw w) : Calls Tryz.prog 14 #[] w fun e w' => e = .returned (.bool true) ∧ Below w.heap.size w w' := by
 have h : gnomonlaw09_awake.f 120 = some true := by decide +kernel
 exact run_t (gnomonlaw09_awake.c h) gw (vs := []) .nil
end Go.Proofs.YtokoadgahflafaaGreatDoor.GMach
end
section
set_option linter.unusedVariables false
namespace Go.Proofs.YtokoadgahflafaaGreatDoor.SoftMachineL
open Go Go.RowKit Go.Proofs.YtokoadgahflafaaGreatDoorW.PrintWords Go.Proofs.YtokoadgahflafaaGreatDoorW.PrintMore Go.Proofs.YtokoadgahflafaaGreatDoor.Px Go.Proofs.YtokoadgahflafaaGreatDoor.FW Go.Proofs.YtokoadgahflafaaGreatDoor.Mach Go.Proofs.YtokoadgahflafaaGreatDoor.GMach
open Ieee
section
variable {P : Program} {ops : Array Oper} {rest : List Oper} {o : Oper} {a : Act} {Q : Exit → Act → World → Prop} {w : World}
theorem fop_g (op : BinOp) (hop : op = .add ∨ op = .sub ∨ op = .mul ∨ op = .quo) {t ty : TypeId} {xo yo : Operand} (ho : o.op = .binOp op t xo yo ty) (hw : Region.wanted o (yielded ops a.tmps) = true) {X Y : Nat} (hx : a.eval xo = .float .f64 X) (hy : a.eval yo = .float .f64 Y)
  (h : ∀ r w1, FOp op X Y r → Drew w w1 → wpList P ops Q rest (a.put o.dst (.float .f64 r)) w1) : wpList P ops Q (o :: rest) a w := by
 obtain ⟨r, w1, hr, h1, h2⟩ := run_fop (P := P) op t X Y w hop
 refine wpList_step fun K hK => ?_
 rw [if_pos hw]
 unfold Oper.wp
 have hg : (eqGuard op t xo yo (.float .f64 X) (.float .f64 Y)).run P w = .ok () w := by
  rcases hop with rfl | rfl | rfl | rfl <;> rfl
 simp [execOp, ho, hx, hy, hg, hr, Result.andThen]
 exact hK _ _ (h r w1 h1 h2)
end
structure Lt (w0 w : World) : Prop where mk :: (g : Gw w) (b : Below w0.heap.size w0 w)
theorem Lt.next {w0 w w' : World} (h : Lt w0 w) (d : Below w.heap.size w w') : Lt w0 w' := ⟨Gw_next _ _ h.g d, h.b.trans (d.mono h.b.size)⟩
theorem Lt.drew {w0 w w' : World} (h : Lt w0 w) (d : Drew w w') : Lt w0 w' := ⟨Gw_next _ _ h.g d.below, d.to_below h.b⟩
set_option maxHeartbeats 1000000 in
set_option maxRecDepth 100000 in
theorem machine_law (a b : Nat) (ha : a < 18446744073709551616) (hb : b < 18446744073709551616) (w : World) (gw : Gw w) : Calls Tryz.prog 11 #[.int .u64 (a : Int), .int .u64 (b : Int)] w fun e w' => e = .returned (.bool true) ∧ Below w.heap.size w w' := by
 obtain ⟨x1, m1, c1⟩ := s_add a b ha hb
 obtain ⟨x2, m2, c2⟩ := s_sub a b ha hb
 obtain ⟨x3, m3, c3⟩ := s_mul a b ha hb
 obtain ⟨x4, m4, c4⟩ := s_div a b ha hb
 obtain ⟨c, oc, hc, c5⟩ := s_cmp a b ha hb
 have L0 : Lt w w := ⟨gw, Below.refl _ _⟩
 have A0 := Lib.hid (s_awake w gw)
 have H1 := Lib.hid (And.intro m1 c1)
 have H2 := Lib.hid (And.intro m2 c2)
 have H3 := Lib.hid (And.intro m3 c3)
 have H4 := Lib.hid (And.intro m4 c4)
 have H5 := Lib.hid (And.intro oc (And.intro hc c5))
 have L0 := Lib.hid L0
 clear m1 c1 m2 c2 m3 c3 m4 c4 oc hc c5 gw ha hb
 have hf := sm_from
 go_enter Tryz.func11, Tryz.ntmps11
 go_wp2_with fail
 refine A0.out.mono ?_
 rintro e w1 ⟨rfl, d⟩
 have L1 := Lib.hid (L0.out.next d)
 clear d
 go_wp2_with fail
 refine (H1.out.2 _ L1.out.g).mono ?_
 rintro e w2 ⟨rfl, d⟩
 have L2 := Lib.hid (L1.out.next d)
 clear d
 go_wp2_with fail
 refine (H2.out.2 _ L2.out.g).mono ?_
 rintro e w3 ⟨rfl, d⟩
 have L3 := Lib.hid (L2.out.next d)
 clear d
 go_wp2_with fail
 refine (H3.out.2 _ L3.out.g).mono ?_
 rintro e w4 ⟨rfl, d⟩
 have L4 := Lib.hid (L3.out.next d)
 clear d
 go_wp2_with fail
 refine (H4.out.2 _ L4.out.g).mono ?_
 rintro e w5 ⟨rfl, d⟩
 have L5 := Lib.hid (L4.out.next d)
 clear d
 go_wp2_with (first | (refine fop_g .add (by simp) rfl rfl rfl rfl ?_; intro r1 v1 h1 d1; have G1 := Lib.hid (And.intro h1 d1); clear h1 d1))
 have K1 := Lib.hid (L5.out.drew G1.out.2)
 have Y1 := machine_any r1 G1.out.1.lt v1
 rw [H1.out.1 _ G1.out.1] at Y1
 refine Y1.mono ?_
 clear Y1
 rintro e w6 ⟨rfl, rfl⟩
 go_wp2_with (first | (refine fop_g .sub (by simp) rfl rfl rfl rfl ?_; intro r2 v2 h1 d1; have G2 := Lib.hid (And.intro h1 d1); clear h1 d1))
 have K2 := Lib.hid (K1.out.drew G2.out.2)
 have Y2 := machine_any r2 G2.out.1.lt v2
 rw [H2.out.1 _ G2.out.1] at Y2
 refine Y2.mono ?_
 clear Y2
 rintro e w7 ⟨rfl, rfl⟩
 go_wp2_with (first | (refine fop_g .mul (by simp) rfl rfl rfl rfl ?_; intro r3 v3 h1 d1; have G3 := Lib.hid (And.intro h1 d1); clear h1 d1))
 have K3 := Lib.hid (K2.out.drew G3.out.2)
 have Y3 := machine_any r3 G3.out.1.lt v3
 rw [H3.out.1 _ G3.out.1] at Y3
 refine Y3.mono ?_
 clear Y3
 rintro e w8 ⟨rfl, rfl⟩
 go_wp2_with (first | (refine fop_g .quo (by simp) rfl rfl rfl rfl ?_; intro r4 v4 h1 d1; have G4 := Lib.hid (And.intro h1 d1); clear h1 d1))
 have K4 := Lib.hid (K3.out.drew G4.out.2)
 have Y4 := machine_any r4 G4.out.1.lt v4
 rw [H4.out.1 _ G4.out.1] at Y4
 refine Y4.mono ?_
 clear Y4
 rintro e w9 ⟨rfl, rfl⟩
 go_wp2_with fail
 refine (H5.out.2.2 _ K4.out.g).mono ?_
 rintro e w10 ⟨rfl, d⟩
 have L6 := Lib.hid (K4.out.next d)
 clear d
 have oc := H5.out.1
 have hc := H5.out.2.1
 have q1 : (FloatKind.f64.format.order a b == some .lt) = (ordC c == some .lt) := by rw [← oc]; rfl
 have q2 : (FloatKind.f64.format.order a b == some .gt) = (ordC c == some .gt) := by rw [← oc]; rfl
 have q3 : (FloatKind.f64.format.order a b == some .eq) = (ordC c == some .eq) := by rw [← oc]; rfl
 clear oc H5 H1 H2 H3 H4
 rcases hc with rfl | rfl | rfl | rfl
 ·have q1 : (FloatKind.f64.format.order a b == some .lt) = false := q1
  have q2 : (FloatKind.f64.format.order a b == some .gt) = false := q2
  have q3 : (FloatKind.f64.format.order a b == some .eq) = false := q3
  go_wp2_with fail
  go_ret
  exact ⟨rfl, L6.out.b⟩
 ·have q1 : (FloatKind.f64.format.order a b == some .lt) = true := q1
  have q2 : (FloatKind.f64.format.order a b == some .gt) = false := q2
  have q3 : (FloatKind.f64.format.order a b == some .eq) = false := q3
  go_wp2_with fail
  go_ret
  exact ⟨rfl, L6.out.b⟩
 ·have q1 : (FloatKind.f64.format.order a b == some .lt) = false := q1
  have q2 : (FloatKind.f64.format.order a b == some .gt) = false := q2
  have q3 : (FloatKind.f64.format.order a b == some .eq) = true := q3
  go_wp2_with fail
  go_ret
  exact ⟨rfl, L6.out.b⟩
 ·have q1 : (FloatKind.f64.format.order a b == some .lt) = false := q1
  have q2 : (FloatKind.f64.format.order a b == some .gt) = true := q2
  have q3 : (FloatKind.f64.format.order a b == some .eq) = false := q3
  go_wp2_with fail
  go_ret
  exact ⟨rfl, L6.out.b⟩
end Go.Proofs.YtokoadgahflafaaGreatDoor.SoftMachineL
end
