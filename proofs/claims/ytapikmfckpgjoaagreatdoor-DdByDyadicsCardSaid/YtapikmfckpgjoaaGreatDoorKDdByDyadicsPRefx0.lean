/- The functions of eft and dd answer just what their steps' relations say, where the answer is no NaN. Plain Lean over the functions. No condition. The question whether a double-double lies within 2^-e of an exact number: plain Lean over the functions. Condition: bounded numbers. -/
import Derived.Test.YtapikmfckpgjoaaGreatDoorKDdByDyadicsDdV
import Derived.Test.YtapikmfckpgjoaaGreatDoorKDdByDyadicsPxL1
import Derived.Test.YtapikmfckpgjoaaGreatDoorKDdByDyadicsPxL2
import Derived.Test.YtapikmfckpgjoaaGreatDoorKDdByDyadicsPxL0
import Derived.Test.YtapikmfckpgjoaaGreatDoorProg
import Derived.Test.YtapikmfckpgjoaaGreatDoorKDdByDyadicsGiven
import Derived.Below
import Derived.Deep.Draws
import Derived.Deep.AppendLies
import Derived.Maps.AppendAt
import Derived.OwnWalk
import Derived.Laws.BytesArg
import Derived.Laws.MakeOwn
import Derived.Laws.OwnMore
import Derived.Deep.OwnRows
import Derived.Tactics
import Derived.Lib.ConvBytes
import Derived.Laws.Slices
import Derived.WalkKit
import Derived.KernelRfl
import Derived.RowKit3
import Derived.Deep.LoopGhost
import Derived.Deep.QuietTactic
import Derived.BigQuiet
import Derived.WideLaws
import Derived.Deep.DeepCutAuto
import Derived.Deep.CutBlock
import Derived.Deep.RegionHeld3
import Derived.Laws.Rows
import Derived.Lib.AppendStr
import Derived.ArgAppend
import Derived.Laws.IdiomCopy
import Derived.OrdersHeld
import Derived.Laws.BitsLemmas
import Derived.RowKit
import Derived.Test.YtapikmfckpgjoaaGreatDoorKDdByDyadicsWWords
import Derived.Test.YtapikmfckpgjoaaGreatDoorKDdByDyadicsWLast
import Derived.Test.YtapikmfckpgjoaaGreatDoorKDdByDyadicsWGuard
import Derived.Test.YtapikmfckpgjoaaGreatDoorKDdByDyadicsWMore
import Derived.Laws.StructEq
import Derived.Test.YtapikmfckpgjoaaGreatDoorKDdByDyadicsPLenx0
section
set_option linter.unusedVariables false
namespace Go.Proofs.YtapikmfckpgjoaaGreatDoor.DdE
open Go Go.RowKit Go.Proofs.YtapikmfckpgjoaaGreatDoor.FW Go.Proofs.YtapikmfckpgjoaaGreatDoor.Eft Go.Proofs.YtapikmfckpgjoaaGreatDoor.PLib Go.Proofs.YtapikmfckpgjoaaGreatDoor.DdB
open Ieee
open Fl (sz fin INF read_nan)
def nn (x : Nat) : Prop := ¬ INF < sz x
theorem nn_fin {x : Nat} (h : fin x) : nn x := by unfold nn; have : sz x < INF := h; omega
theorem nan_l {op : BinOp} {x y : Nat} (hop : op = .add ∨ op = .sub ∨ op = .mul ∨ op = .quo) (h : INF < sz x) : floatBits op .f64 x y = none := by
 obtain ⟨s, f, e⟩ := read_nan h
 rcases hop with rfl | rfl | rfl | rfl
 ·show double.add x y = none
  unfold Format.add; rw [e]; cases double.read y <;> rfl
 ·show double.sub x y = none
  unfold Format.sub; rw [e]; cases double.read y <;> rfl
 ·show double.mul x y = none
  unfold Format.mul; rw [e]; cases double.read y <;> rfl
 ·show double.div x y = none
  unfold Format.div; rw [e]; cases double.read y <;> rfl
theorem nan_r {op : BinOp} {x y : Nat} (hop : op = .add ∨ op = .sub ∨ op = .mul ∨ op = .quo) (h : INF < sz y) : floatBits op .f64 x y = none := by
 obtain ⟨s, f, e⟩ := read_nan h
 rcases hop with rfl | rfl | rfl | rfl
 ·show double.add x y = none
  unfold Format.add; rw [e]; cases double.read x <;> rfl
 ·show double.sub x y = none
  unfold Format.sub; rw [e]; cases double.read x <;> rfl
 ·show double.mul x y = none
  unfold Format.mul; rw [e]; cases double.read x <;> rfl
 ·show double.div x y = none
  unfold Format.div; rw [e]; cases double.read x <;> rfl
theorem back {op : BinOp} {x y r : Nat} (hop : op = .add ∨ op = .sub ∨ op = .mul ∨ op = .quo) (h : FOp op x y r) (n : nn r) : floatBits op .f64 x y = some r ∧ nn x ∧ nn y := by
 rcases e : floatBits op .f64 x y with _ | v
 ·exact absurd (show INF < sz r from h.nan e) n
 ·refine ⟨by rw [h.val v e], fun q => ?_, fun q => ?_⟩
  ·rw [nan_l hop q] at e; cases e
  ·rw [nan_r hop q] at e; cases e
theorem b_add {x y r : Nat} (h : FOp .add x y r) (n : nn r) : FloatKind.f64.format.add x y = some r ∧ nn x ∧ nn y := back (by simp) h n
theorem b_sub {x y r : Nat} (h : FOp .sub x y r) (n : nn r) : FloatKind.f64.format.sub x y = some r ∧ nn x ∧ nn y := back (by simp) h n
theorem b_mul {x y r : Nat} (h : FOp .mul x y r) (n : nn r) : FloatKind.f64.format.mul x y = some r ∧ nn x ∧ nn y := back (by simp) h n
theorem f_ex (op : BinOp) (x y : Nat) : ∃ r, FOp op x y r := by
 rcases e : floatBits op .f64 x y with _ | v
 ·exact ⟨9221120237041090561, ⟨by decide, fun v q => (by rw [e] at q; cases q), fun _ => by decide⟩⟩
 ·refine ⟨v, ⟨?_, fun u q => (by rw [e] at q; exact Option.some.inj q), fun q => (by rw [e] at q; cases q)⟩⟩
  have := floatBits_wf e
  simpa [Lit.wf] using this
theorem two_ex (a b : Nat) : ∃ s e, TwoSumR a b s e := by
 obtain ⟨s, h1⟩ := f_ex .add a b
 obtain ⟨bb, h2⟩ := f_ex .sub s a
 obtain ⟨aa, h3⟩ := f_ex .sub s bb
 obtain ⟨t1, h4⟩ := f_ex .sub a aa
 obtain ⟨t2, h5⟩ := f_ex .sub b bb
 obtain ⟨e, h6⟩ := f_ex .add t1 t2
 exact ⟨s, e, bb, aa, t1, t2, h1, h2, h3, h4, h5, h6⟩
theorem fast_ex (a b : Nat) : ∃ s e, FastR a b s e := by
 obtain ⟨s, h1⟩ := f_ex .add a b
 obtain ⟨z, h2⟩ := f_ex .sub s a
 obtain ⟨e, h3⟩ := f_ex .sub b z
 exact ⟨s, e, z, h1, h2, h3⟩
theorem split_ex (a : Nat) : ∃ h l, SplitR a h l := by
 obtain ⟨c, h1⟩ := f_ex .mul 4728779608772575232 a
 obtain ⟨d, h2⟩ := f_ex .sub c a
 obtain ⟨h, h3⟩ := f_ex .sub c d
 obtain ⟨l, h4⟩ := f_ex .sub a h
 exact ⟨h, l, c, d, h1, h2, h3, h4⟩
theorem prod_ex (a b : Nat) : ∃ p e, ProdR a b p e := by
 obtain ⟨p, hp⟩ := f_ex .mul a b
 obtain ⟨ah, al, sa⟩ := split_ex a
 obtain ⟨bh, bl, sb⟩ := split_ex b
 obtain ⟨x1, h1⟩ := f_ex .mul ah bh
 obtain ⟨e1, k1⟩ := f_ex .sub x1 p
 obtain ⟨x2, h2⟩ := f_ex .mul ah bl
 obtain ⟨e2, k2⟩ := f_ex .add e1 x2
 obtain ⟨x3, h3⟩ := f_ex .mul al bh
 obtain ⟨e3, k3⟩ := f_ex .add e2 x3
 obtain ⟨x4, h4⟩ := f_ex .mul al bl
 obtain ⟨e, k4⟩ := f_ex .add e3 x4
 exact ⟨p, e, ah, al, bh, bl, x1, e1, x2, e2, x3, e3, x4, hp, sa, sb, h1, k1, h2, k2, h3, k3, h4, k4⟩
theorem add_ex (xh xl yh yl : Nat) : ∃ zh zl, AddR xh xl yh yl zh zl := by
 obtain ⟨s, e, h1⟩ := two_ex xh yh
 obtain ⟨t, f, h2⟩ := two_ex xl yl
 obtain ⟨c, h3⟩ := f_ex .add e t
 obtain ⟨vh, vl, h4⟩ := fast_ex s c
 obtain ⟨w, h5⟩ := f_ex .add f vl
 obtain ⟨zh, zl, h6⟩ := fast_ex vh w
 exact ⟨zh, zl, s, e, t, f, c, vh, vl, w, h1, h2, h3, h4, h5, h6⟩
theorem mul_ex (xh xl yh yl : Nat) : ∃ zh zl, MulR xh xl yh yl zh zl := by
 obtain ⟨p, e, h1⟩ := prod_ex xh yh
 obtain ⟨m1, h2⟩ := f_ex .mul xh yl
 obtain ⟨m2, h3⟩ := f_ex .mul xl yh
 obtain ⟨c, h4⟩ := f_ex .add m1 m2
 obtain ⟨w, h5⟩ := f_ex .add e c
 obtain ⟨zh, zl, h6⟩ := fast_ex p w
 exact ⟨zh, zl, p, e, m1, m2, c, w, h1, h2, h3, h4, h5, h6⟩
theorem two_f {a b s e : Nat} (h : TwoSumR a b s e) (n : nn e) : eft_TwoSum.f a b = some (s, e) ∧ nn a ∧ nn b ∧ nn s := by
 obtain ⟨bb, aa, t1, t2, h1, h2, h3, h4, h5, h6⟩ := h
 obtain ⟨k6, n1, n2⟩ := b_add h6 n
 obtain ⟨k5, nb, nbb⟩ := b_sub h5 n2
 obtain ⟨k4, na, naa⟩ := b_sub h4 n1
 obtain ⟨k3, ns, _⟩ := b_sub h3 naa
 obtain ⟨k2, _, _⟩ := b_sub h2 nbb
 obtain ⟨k1, _, _⟩ := b_add h1 ns
 refine ⟨?_, na, nb, ns⟩
 unfold eft_TwoSum.f
 rw [k1, Option.bind_some, k2, Option.bind_some, k3, Option.bind_some, k4, Option.bind_some, k5, Option.bind_some, k6, Option.bind_some]
theorem fast_f {a b s e : Nat} (h : FastR a b s e) (n : nn e) : eft_FastTwoSum.f a b = some (s, e) ∧ nn a ∧ nn b ∧ nn s := by
 obtain ⟨z, h1, h2, h3⟩ := h
 obtain ⟨k3, nb, nz⟩ := b_sub h3 n
 obtain ⟨k2, ns, na⟩ := b_sub h2 nz
 obtain ⟨k1, _, _⟩ := b_add h1 ns
 refine ⟨?_, na, nb, ns⟩
 unfold eft_FastTwoSum.f
 rw [k1, Option.bind_some, k2, Option.bind_some, k3, Option.bind_some]
theorem pair_f {a b s e : Nat} (h : FastR a b s e) (n : nn e) : dd_pair.f a b = some (s, e) ∧ nn a ∧ nn b ∧ nn s := by
 obtain ⟨k, q⟩ := fast_f h n
 refine ⟨?_, q⟩
 unfold dd_pair.f
 rw [k]; rfl
theorem split_f {a h l : Nat} (H : SplitR a h l) (n : nn l) : eft_Split.f a = some (h, l) ∧ nn a ∧ nn h := by
 obtain ⟨c, d, h1, h2, h3, h4⟩ := H
 obtain ⟨k4, na, nh⟩ := b_sub h4 n
 obtain ⟨k3, nc, nd⟩ := b_sub h3 nh
 obtain ⟨k2, _, _⟩ := b_sub h2 nd
 obtain ⟨k1, _, _⟩ := b_mul h1 nc
 refine ⟨?_, na, nh⟩
 unfold eft_Split.f
 rw [k1, Option.bind_some, k2, Option.bind_some, k3, Option.bind_some, k4, Option.bind_some]
theorem prod_f {a b p e : Nat} (h : ProdR a b p e) (n : nn e) : eft_TwoProd.f a b = some (p, e) ∧ nn a ∧ nn b ∧ nn p := by
 obtain ⟨ah, al, bh, bl, x1, e1, x2, e2, x3, e3, x4, hp, sa, sb, h1, k1, h2, k2, h3, k3, h4, k4⟩ := h
 obtain ⟨q11, n3, nx4⟩ := b_add k4 n
 obtain ⟨q10, nal, nbl⟩ := b_mul h4 nx4
 obtain ⟨q9, n2, nx3⟩ := b_add k3 n3
 obtain ⟨q8, _, nbh⟩ := b_mul h3 nx3
 obtain ⟨q7, n1, nx2⟩ := b_add k2 n2
 obtain ⟨q6, nah, _⟩ := b_mul h2 nx2
 obtain ⟨q5, nx1, np⟩ := b_sub k1 n1
 obtain ⟨q4, _, _⟩ := b_mul h1 nx1
 obtain ⟨q3, nb, _⟩ := split_f sb nbl
 obtain ⟨q2, na, _⟩ := split_f sa nal
 obtain ⟨q1, _, _⟩ := b_mul hp np
 refine ⟨?_, na, nb, np⟩
 unfold eft_TwoProd.f
 rw [q1, Option.bind_some, q2, Option.bind_some, q3, Option.bind_some, q4, Option.bind_some, q5, Option.bind_some, q6, Option.bind_some, q7, Option.bind_some, q8, Option.bind_some, q9, Option.bind_some, q10, Option.bind_some, q11, Option.bind_some]
theorem add_f {xh xl yh yl zh zl : Nat} (h : AddR xh xl yh yl zh zl) (n : nn zl) : dd_Add.f xh xl yh yl = some (zh, zl) := by
 obtain ⟨s, e, t, f, c, vh, vl, w, h1, h2, h3, h4, h5, h6⟩ := h
 obtain ⟨q6, nvh, nw, _⟩ := pair_f h6 n
 obtain ⟨q5, nf, nvl⟩ := b_add h5 nw
 obtain ⟨q4, ns, nc, _⟩ := pair_f h4 nvl
 obtain ⟨q3, ne, nt⟩ := b_add h3 nc
 obtain ⟨q2, _, _, _⟩ := two_f h2 nf
 obtain ⟨q1, _, _, _⟩ := two_f h1 ne
 unfold dd_Add.f
 rw [q1, Option.bind_some, q2, Option.bind_some, q3, Option.bind_some, q4, Option.bind_some, q5, Option.bind_some, q6, Option.bind_some]
theorem mul_f {xh xl yh yl zh zl : Nat} (h : MulR xh xl yh yl zh zl) (n : nn zl) : dd_Mul.f xh xl yh yl = some (zh, zl) := by
 obtain ⟨p, e, m1, m2, c, w, h1, h2, h3, h4, h5, h6⟩ := h
 obtain ⟨q6, np, nw, _⟩ := pair_f h6 n
 obtain ⟨q5, ne, nc⟩ := b_add h5 nw
 obtain ⟨q4, nm1, nm2⟩ := b_add h4 nc
 obtain ⟨q3, _, _⟩ := b_mul h3 nm2
 obtain ⟨q2, _, _⟩ := b_mul h2 nm1
 obtain ⟨q1, _⟩ := prod_f h1 ne
 unfold dd_Mul.f
 rw [q1, Option.bind_some, q2, Option.bind_some, q3, Option.bind_some, q4, Option.bind_some, q5, Option.bind_some, q6, Option.bind_some]
theorem sqr_f {xh xl zh zl : Nat} (h : MulR xh xl xh xl zh zl) (n : nn zl) : dd_Sqr.f xh xl = some (zh, zl) := by
 unfold dd_Sqr.f
 rw [mul_f h n]; rfl
theorem FormP_Frm {x y : Nat} (hx : x < 2^64) (hy : y < 2^64) (F : DdV.FormP x y) : Frm x y := ⟨hx, hy, F.1, F.2.1, F.2.2⟩
theorem Frm_FormP {x y : Nat} (F : Frm x y) : DdV.FormP x y := ⟨F.fh, F.fl, F.hx⟩
theorem add_any {xh xl yh yl : Nat} (X : Frm xh xl) (Y : Frm yh yl) (fx : fitS xh) (fy : fitS yh) :
  ∃ zh zl, dd_Add.f xh xl yh yl = some (zh, zl) ∧ Frm zh zl ∧ 2^103 * (V zh zl - (V xh xl + V yh yl)).natAbs ≤ (V xh xl + V yh yl).natAbs := by
 obtain ⟨zh, zl, h⟩ := add_ex xh xl yh yl
 obtain ⟨F, r⟩ := add_law h X Y (fit_T fx) (fit_T fy)
 exact ⟨zh, zl, add_f h (nn_fin F.fl), F, r⟩
theorem neg_Frm {x y : Nat} (F : Frm x y) : Frm (Op.negFloat .f64 x) (Op.negFloat .f64 y) := by
 have a := DdV.neg_w F.lh
 have b := DdV.neg_w F.ll
 exact FormP_Frm a.1 b.1 ((DdV.neg_form F.lh F.ll).2 (Frm_FormP F))
theorem neg_fit {x : Nat} (hx : x < 2^64) (h : fitS x) : fitS (Op.negFloat .f64 x) := by
 have a := DdV.neg_w hx
 unfold fitS
 rw [a.2.1]; exact h
theorem sub_any {xh xl yh yl : Nat} (X : Frm xh xl) (Y : Frm yh yl) (fx : fitS xh) (fy : fitS yh) :
  ∃ zh zl, dd_Sub.f xh xl yh yl = some (zh, zl) ∧ Frm zh zl ∧ 2^103 * (V zh zl - (V xh xl - V yh yl)).natAbs ≤ (V xh xl - V yh yl).natAbs := by
 obtain ⟨zh, zl, e, F, r⟩ := add_any X (neg_Frm Y) fx (neg_fit Y.lh fy)
 rw [DdV.neg_V Y.lh Y.ll, ← Int.sub_eq_add_neg] at r
 refine ⟨zh, zl, ?_, F, r⟩
 unfold dd_Sub.f dd_Neg.f
 rw [Option.bind_some, e]; rfl
theorem mul_any {xh xl yh yl : Nat} (X : Frm xh xl) (Y : Frm yh yl) (fx : fitS xh) (fy : fitS yh) :
  ∃ zh zl, dd_Mul.f xh xl yh yl = some (zh, zl) ∧ Frm zh zl ∧ ∃ g, g = 1074 ∧ 2^102 * (V zh zl * 2^g - V xh xl * V yh yl).natAbs ≤ (V xh xl * V yh yl).natAbs := by
 obtain ⟨zh, zl, h⟩ := mul_ex xh xl yh yl
 obtain ⟨F, r⟩ := mul_law h X Y fx fy
 exact ⟨zh, zl, mul_f h (nn_fin F.fl), F, r⟩
theorem sqr_any {xh xl : Nat} (X : Frm xh xl) (fx : fitS xh) :
  ∃ zh zl, dd_Sqr.f xh xl = some (zh, zl) ∧ Frm zh zl ∧ ∃ g, g = 1074 ∧ 2^102 * (V zh zl * 2^g - V xh xl * V xh xl).natAbs ≤ (V xh xl * V xh xl).natAbs := by
 obtain ⟨zh, zl, h⟩ := mul_ex xh xl xh xl
 obtain ⟨F, r⟩ := mul_law h X X fx fx
 exact ⟨zh, zl, sqr_f h (nn_fin F.fl), F, r⟩
end Go.Proofs.YtapikmfckpgjoaaGreatDoor.DdE
end
section
set_option linter.unusedVariables false
namespace Go.Proofs.YtapikmfckpgjoaaGreatDoor.DdWi
open Go.RowKit Go.Proofs.YtapikmfckpgjoaaGreatDoorW.PrintWords Go.Proofs.YtapikmfckpgjoaaGreatDoorW.PrintMore Go.Proofs.YtapikmfckpgjoaaGreatDoor.Num Go.Proofs.YtapikmfckpgjoaaGreatDoor.PLib Go.Proofs.YtapikmfckpgjoaaGreatDoor.Ref Go.Proofs.YtapikmfckpgjoaaGreatDoor.GTh Go.Proofs.YtapikmfckpgjoaaGreatDoor.Given Go.Proofs.YtapikmfckpgjoaaGreatDoor.Rp1 Go.Proofs.YtapikmfckpgjoaaGreatDoor.Rp2 Go.Proofs.YtapikmfckpgjoaaGreatDoor.Rp3 Go.Proofs.YtapikmfckpgjoaaGreatDoor.Rp4 Go.Proofs.YtapikmfckpgjoaaGreatDoor.Rp5 Go.Proofs.YtapikmfckpgjoaaGreatDoor.Rp7 Go.Proofs.YtapikmfckpgjoaaGreatDoor.BinLaw Go.Proofs.YtapikmfckpgjoaaGreatDoor.Fm8 Go.Proofs.YtapikmfckpgjoaaGreatDoor.Rnd Go.Proofs.YtapikmfckpgjoaaGreatDoor.Px Go.Proofs.YtapikmfckpgjoaaGreatDoor.DdB Go.Proofs.YtapikmfckpgjoaaGreatDoor.DdV Go.Proofs.YtapikmfckpgjoaaGreatDoor.DdE
theorem wi_awake : gnomonlaw20_awake.f = some true := by decide +kernel
theorem wi_float (a : Nat) : gnomonlaw20_float.f (a : Int) = some a := by
 unfold gnomonlaw20_float.f
 rw [Int.toNat_natCast]
theorem wi_pair (a b : Nat) : gnomonlaw20_pair.f (a : Int) (b : Int) = some (a, b) := by
 unfold gnomonlaw20_pair.f
 rw [wi_float, wi_float]; rfl
theorem wi_u64 {a : Int} (w : (Lit.int .u64 a).wf = true) : ∃ n : Nat, a = (n : Int) ∧ n < 18446744073709551616 := by
 have e1 : IntKind.u64.min = 0 := rfl
 have e2 : IntKind.u64.max = 18446744073709551615 := rfl
 have h : IntKind.u64.min ≤ a ∧ a ≤ IntKind.u64.max := by simpa [Lit.wf] using w
 exact ⟨a.toNat, by omega, by omega⟩
theorem wi_V (x y : Nat) : bl (V x y).natAbs ≤ 2102 := by
 unfold V
 exact Nat.le_trans (bl_mono (Int.natAbs_add_le _ _)) (bl_add (ddv_blU x) (ddv_blU y))
theorem bl_scale {A n : Nat} : bl (A * 2^n) ≤ bl A + n := by
 by_cases c : A = 0
 ·rw [c, Nat.zero_mul]; rw [show bl 0 = 0 from rfl]; omega
 ·rw [bl_mul _ _ c]; exact Nat.le_refl _
theorem size_any {E : Int} {n n' : Bool} {m m' : Nat} {x x' A B : Int} (h : Dy E n m x A) (h' : Dy E n' m' x' B) : Ev (fun k => gnomonlaw20_size.f k n (lb m) x n' (lb m') x') (cmZ ((A.natAbs : Nat) : Int) ((B.natAbs : Nat) : Int)) := by
 have abs1 : ∃ n1, Dy E n1 m x ((A.natAbs : Nat) : Int) ∧ ((n = true ∧ Ev (fun k => dyadic_Neg.f k n (lb m) x) (n1, lb m, x, 0)) ∨ (n = false ∧ n1 = n)) := by
  have hn := h.neg
  by_cases c : A < 0
  ·obtain ⟨n1, d, e⟩ := neg_dy h
   rw [decide_eq_true c] at hn
   exact ⟨n1, by rw [show ((A.natAbs : Nat) : Int) = -A by omega]; exact d, .inl ⟨hn, e⟩⟩
  ·rw [decide_eq_false c] at hn
   exact ⟨n, by rw [show ((A.natAbs : Nat) : Int) = A by omega]; exact h, .inr ⟨hn, rfl⟩⟩
 have abs2 : ∃ n1, Dy E n1 m' x' ((B.natAbs : Nat) : Int) ∧ ((n' = true ∧ Ev (fun k => dyadic_Neg.f k n' (lb m') x') (n1, lb m', x', 0)) ∨ (n' = false ∧ n1 = n')) := by
  have hn := h'.neg
  by_cases c : B < 0
  ·obtain ⟨n1, d, e⟩ := neg_dy h'
   rw [decide_eq_true c] at hn
   exact ⟨n1, by rw [show ((B.natAbs : Nat) : Int) = -B by omega]; exact d, .inl ⟨hn, e⟩⟩
  ·rw [decide_eq_false c] at hn
   exact ⟨n', by rw [show ((B.natAbs : Nat) : Int) = B by omega]; exact h', .inr ⟨hn, rfl⟩⟩
 obtain ⟨n1, d1, e1⟩ := abs1
 obtain ⟨n2, d2, e2⟩ := abs2
 have c := dcmp_ev d1.dk d2.dk
 rw [dcm_vs d1.le d2.le, d1.va, d2.va] at c
 unfold gnomonlaw20_size.f
 rcases e1 with ⟨rfl, e1⟩ | ⟨rfl, rfl⟩
 ·refine Ev.congr (fun k => if_pos rfl) (Ev.bind e1 ?_)
  rcases e2 with ⟨rfl, e2⟩ | ⟨rfl, rfl⟩
  ·exact Ev.congr (fun k => if_pos rfl) (Ev.bind e2 (Ev.bind c (Ev.congr (fun k => if_pos rfl) (Ev.now _))))
  ·exact Ev.congr (fun k => if_neg (by decide)) (Ev.bind c (Ev.congr (fun k => if_pos rfl) (Ev.now _)))
 ·refine Ev.congr (fun k => if_neg (by decide)) ?_
  rcases e2 with ⟨rfl, e2⟩ | ⟨rfl, rfl⟩
  ·exact Ev.congr (fun k => if_pos rfl) (Ev.bind e2 (Ev.bind c (Ev.congr (fun k => if_pos rfl) (Ev.now _))))
  ·exact Ev.congr (fun k => if_neg (by decide)) (Ev.bind c (Ev.congr (fun k => if_pos rfl) (Ev.now _)))
theorem within_any {a b : Nat} (F : Frm a b) {E : Int} {K : Nat} (hE : E = -1074 - (K : Int)) (hK : K ≤ 2000) {n : Bool} {m : Nat} {x Y : Int} (dy : Dy E n m x Y) (hY : bl Y.natAbs ≤ 20000) (e : Nat) (he : e ≤ 110) (hb : 2^e * (V a b * 2^K - Y).natAbs ≤ Y.natAbs) :
  Ev (fun k => gnomonlaw20_within.f k a b n (lb m) x (e : Int)) true := by
 have ha := F.lh
 have hb' := F.ll
 have FP := Frm_FormP F
 obtain ⟨n1, m1, x1, d1, e1⟩ := value_f ha hb' FP
 have d1' := d1.down K
 rw [← hE] at d1'
 have pc : ((2^K : Nat) : Int) = (2:Int)^K := by rw [Int.natCast_pow]; rfl
 rw [pc] at d1'
 have b1 : bl (V a b * 2^K).natAbs ≤ 5000 := by
  rw [Int.natAbs_mul, Int.natAbs_pow]
  have := bl_scale (A := (V a b).natAbs) (n := K)
  have := wi_V a b
  show bl ((V a b).natAbs * 2^K) ≤ 5000
  omega
 obtain ⟨n2, c, y, d2, e2⟩ := sub_dy d1' dy (by omega) (by omega) (by omega) (by omega)
 have bo : bl (V a b * 2^K - Y).natAbs ≤ 20001 := by
  have t : (V a b * 2^K - Y).natAbs ≤ (V a b * 2^K).natAbs + Y.natAbs := by omega
  exact Nat.le_trans (bl_mono t) (bl_add (by omega) hY)
 have ylo := d2.le
 have yhi : y ≤ 30000 := by
  by_cases c0 : c = 0
  ·have := (d2.dk.zero c0).2; omega
  ·have := d2.bl c0; omega
 obtain ⟨y', d3, e3⟩ := scale_dy d2 (e : Int) (by omega) (by omega) (by omega) (by omega)
 have d4 := d3.down e
 rw [show E + (e : Int) - (e : Int) = E by omega] at d4
 have s := size_any d4 dy
 have pe : ((2^e : Nat) : Int) = (2:Int)^e := by rw [Int.natCast_pow]; rfl
 have le : cmZ ((((V a b * 2^K - Y) * ((2^e : Nat) : Int)).natAbs : Nat) : Int) ((Y.natAbs : Nat) : Int) ≤ 0 := by
  rw [cmZ_le, Int.natAbs_mul, Int.natAbs_natCast, Nat.mul_comm]
  exact Int.ofNat_le.2 hb
 have ff := ((form_f ha hb').resolve_right fun h => h.1 FP).2
 unfold gnomonlaw20_within.f
 refine Ev.bind e1 (Ev.bind e2 (Ev.bind e3 (Ev.congr (fun k => if_pos rfl) (Ev.congr (fun k => if_pos rfl) (Ev.congr (fun k => if_pos rfl) (Ev.bind (ev_of ff) (Ev.congr (fun k => if_pos rfl) (Ev.bind s ?_))))))))
 rw [decide_eq_true le]
 exact Ev.now _
end Go.Proofs.YtapikmfckpgjoaaGreatDoor.DdWi
end
section
namespace Go.Proofs.YtapikmfckpgjoaaGreatDoor.PRef
open Go.RowKit Go.Proofs.YtapikmfckpgjoaaGreatDoorW.PrintWords Go.Proofs.YtapikmfckpgjoaaGreatDoorW.PrintLast Go.Proofs.YtapikmfckpgjoaaGreatDoorW.PrintMore Go.Proofs.YtapikmfckpgjoaaGreatDoor.Given Go.Proofs.YtapikmfckpgjoaaGreatDoor.GTab
attribute [local go_sem] max2_int min2_int max_two min_two max_three min_three max_four min_four   -- for this text's walks alone
set_option linter.unusedVariables false
set_option linter.unusedSimpArgs false
def errW : Option Int → Value
 | none => .nilIface
 | some c => .iface 0 (.int .i64 c)
theorem errW_none : errW none = .nilIface := rfl
theorem errW_some (c : Int) : errW (some c) = .iface 0 (.int .i64 c) := rfl
theorem info96 : (Tryz.prog.info? 96).map (fun i => (i.zero, i.size, i.bytes)) = some (some (.int .u32 0), 1, 4) := by kernel_rfl
end Go.Proofs.YtapikmfckpgjoaaGreatDoor.PRef
end
