/- The functions of eft and dd answer just what their steps' relations say, where the answer is no NaN. Plain Lean over the functions. No condition. -/
import Derived.Test.YtapikmfckpgjoaaGreatDoorKDdMulsDdV
import Derived.Test.YtapikmfckpgjoaaGreatDoorKDdMulsPxL1
import Derived.Test.YtapikmfckpgjoaaGreatDoorKDdMulsPxL2
set_option linter.unusedVariables false
namespace Go.Proofs.YtapikmfckpgjoaaGreatDoor.DdE
open Go Go.RowKit Go.Proofs.YtapikmfckpgjoaaGreatDoor.FW Go.Proofs.YtapikmfckpgjoaaGreatDoor.Eft Go.Proofs.YtapikmfckpgjoaaGreatDoor.PLib Go.Proofs.YtapikmfckpgjoaaGreatDoor.DdB
open Ieee
open Fl (sz fin INF read_nan)
def nn (x : Nat) : Prop := ¬ INF < sz x
theorem nn_fin {x : Nat} (h : fin x) : nn x := by unfold nn; have : sz x < INF := h; omega
theorem nan_l {op : BinOp} {x y : Nat} (hop : op = .add ∨ op = .sub ∨ op = .mul ∨ op = .quo) (h : INF < sz x) : floatBits op .f64 x y = none := by
 obtain ⟨s, f, e⟩ := read_nan h
 rcases hop with rfl | rfl | rfl | rfl
 ·show double.add x y = none
  unfold Format.add; rw [e]; cases double.read y <;> rfl
 ·show double.sub x y = none
  unfold Format.sub; rw [e]; cases double.read y <;> rfl
 ·show double.mul x y = none
  unfold Format.mul; rw [e]; cases double.read y <;> rfl
 ·show double.div x y = none
  unfold Format.div; rw [e]; cases double.read y <;> rfl
theorem nan_r {op : BinOp} {x y : Nat} (hop : op = .add ∨ op = .sub ∨ op = .mul ∨ op = .quo) (h : INF < sz y) : floatBits op .f64 x y = none := by
 obtain ⟨s, f, e⟩ := read_nan h
 rcases hop with rfl | rfl | rfl | rfl
 ·show double.add x y = none
  unfold Format.add; rw [e]; cases double.read x <;> rfl
 ·show double.sub x y = none
  unfold Format.sub; rw [e]; cases double.read x <;> rfl
 ·show double.mul x y = none
  unfold Format.mul; rw [e]; cases double.read x <;> rfl
 ·show double.div x y = none
  unfold Format.div; rw [e]; cases double.read x <;> rfl
theorem back {op : BinOp} {x y r : Nat} (hop : op = .add ∨ op = .sub ∨ op = .mul ∨ op = .quo) (h : FOp op x y r) (n : nn r) : floatBits op .f64 x y = some r ∧ nn x ∧ nn y := by
 rcases e : floatBits op .f64 x y with _ | v
 ·exact absurd (show INF < sz r from h.nan e) n
 ·refine ⟨by rw [h.val v e], fun q => ?_, fun q => ?_⟩
  ·rw [nan_l hop q] at e; cases e
  ·rw [nan_r hop q] at e; cases e
theorem b_add {x y r : Nat} (h : FOp .add x y r) (n : nn r) : FloatKind.f64.format.add x y = some r ∧ nn x ∧ nn y := back (by simp) h n
theorem b_sub {x y r : Nat} (h : FOp .sub x y r) (n : nn r) : FloatKind.f64.format.sub x y = some r ∧ nn x ∧ nn y := back (by simp) h n
theorem b_mul {x y r : Nat} (h : FOp .mul x y r) (n : nn r) : FloatKind.f64.format.mul x y = some r ∧ nn x ∧ nn y := back (by simp) h n
theorem b_div {x y r : Nat} (h : FOp .quo x y r) (n : nn r) : FloatKind.f64.format.div x y = some r ∧ nn x ∧ nn y := back (by simp) h n
theorem f_ex (op : BinOp) (x y : Nat) : ∃ r, FOp op x y r := by
 rcases e : floatBits op .f64 x y with _ | v
 ·exact ⟨9221120237041090561, ⟨by decide, fun v q => (by rw [e] at q; cases q), fun _ => by decide⟩⟩
 ·refine ⟨v, ⟨?_, fun u q => (by rw [e] at q; exact Option.some.inj q), fun q => (by rw [e] at q; cases q)⟩⟩
  have := floatBits_wf e
  simpa [Lit.wf] using this
theorem two_ex (a b : Nat) : ∃ s e, TwoSumR a b s e := by
 obtain ⟨s, h1⟩ := f_ex .add a b
 obtain ⟨bb, h2⟩ := f_ex .sub s a
 obtain ⟨aa, h3⟩ := f_ex .sub s bb
 obtain ⟨t1, h4⟩ := f_ex .sub a aa
 obtain ⟨t2, h5⟩ := f_ex .sub b bb
 obtain ⟨e, h6⟩ := f_ex .add t1 t2
 exact ⟨s, e, bb, aa, t1, t2, h1, h2, h3, h4, h5, h6⟩
theorem fast_ex (a b : Nat) : ∃ s e, FastR a b s e := by
 obtain ⟨s, h1⟩ := f_ex .add a b
 obtain ⟨z, h2⟩ := f_ex .sub s a
 obtain ⟨e, h3⟩ := f_ex .sub b z
 exact ⟨s, e, z, h1, h2, h3⟩
theorem split_ex (a : Nat) : ∃ h l, SplitR a h l := by
 obtain ⟨c, h1⟩ := f_ex .mul 4728779608772575232 a
 obtain ⟨d, h2⟩ := f_ex .sub c a
 obtain ⟨h, h3⟩ := f_ex .sub c d
 obtain ⟨l, h4⟩ := f_ex .sub a h
 exact ⟨h, l, c, d, h1, h2, h3, h4⟩
theorem prod_ex (a b : Nat) : ∃ p e, ProdR a b p e := by
 obtain ⟨p, hp⟩ := f_ex .mul a b
 obtain ⟨ah, al, sa⟩ := split_ex a
 obtain ⟨bh, bl, sb⟩ := split_ex b
 obtain ⟨x1, h1⟩ := f_ex .mul ah bh
 obtain ⟨e1, k1⟩ := f_ex .sub x1 p
 obtain ⟨x2, h2⟩ := f_ex .mul ah bl
 obtain ⟨e2, k2⟩ := f_ex .add e1 x2
 obtain ⟨x3, h3⟩ := f_ex .mul al bh
 obtain ⟨e3, k3⟩ := f_ex .add e2 x3
 obtain ⟨x4, h4⟩ := f_ex .mul al bl
 obtain ⟨e, k4⟩ := f_ex .add e3 x4
 exact ⟨p, e, ah, al, bh, bl, x1, e1, x2, e2, x3, e3, x4, hp, sa, sb, h1, k1, h2, k2, h3, k3, h4, k4⟩
theorem add_ex (xh xl yh yl : Nat) : ∃ zh zl, AddR xh xl yh yl zh zl := by
 obtain ⟨s, e, h1⟩ := two_ex xh yh
 obtain ⟨t, f, h2⟩ := two_ex xl yl
 obtain ⟨c, h3⟩ := f_ex .add e t
 obtain ⟨vh, vl, h4⟩ := fast_ex s c
 obtain ⟨w, h5⟩ := f_ex .add f vl
 obtain ⟨zh, zl, h6⟩ := fast_ex vh w
 exact ⟨zh, zl, s, e, t, f, c, vh, vl, w, h1, h2, h3, h4, h5, h6⟩
theorem mul_ex (xh xl yh yl : Nat) : ∃ zh zl, MulR xh xl yh yl zh zl := by
 obtain ⟨p, e, h1⟩ := prod_ex xh yh
 obtain ⟨m1, h2⟩ := f_ex .mul xh yl
 obtain ⟨m2, h3⟩ := f_ex .mul xl yh
 obtain ⟨c, h4⟩ := f_ex .add m1 m2
 obtain ⟨w, h5⟩ := f_ex .add e c
 obtain ⟨zh, zl, h6⟩ := fast_ex p w
 exact ⟨zh, zl, p, e, m1, m2, c, w, h1, h2, h3, h4, h5, h6⟩
theorem mulf_ex (xh xl f : Nat) : ∃ zh zl, MulfR xh xl f zh zl := by
 obtain ⟨p, e, h1⟩ := prod_ex xh f
 obtain ⟨m, h2⟩ := f_ex .mul xl f
 obtain ⟨vh, vl, h3⟩ := fast_ex p m
 obtain ⟨w, h4⟩ := f_ex .add vl e
 obtain ⟨zh, zl, h5⟩ := fast_ex vh w
 exact ⟨zh, zl, p, e, m, vh, vl, w, h1, h2, h3, h4, h5⟩
theorem div_ex (xh xl yh yl : Nat) : ∃ zh zl, DivR xh xl yh yl zh zl := by
 obtain ⟨q, h1⟩ := f_ex .quo xh yh
 obtain ⟨rh, rl, h2⟩ := mulf_ex yh yl q
 obtain ⟨d1, h3⟩ := f_ex .sub xh rh
 obtain ⟨d2, h4⟩ := f_ex .sub xl rl
 obtain ⟨l, h5⟩ := f_ex .add d1 d2
 obtain ⟨t, h6⟩ := f_ex .quo l yh
 obtain ⟨zh, zl, h7⟩ := fast_ex q t
 exact ⟨zh, zl, q, rh, rl, d1, d2, l, t, h1, h2, h3, h4, h5, h6, h7⟩
theorem two_f {a b s e : Nat} (h : TwoSumR a b s e) (n : nn e) : eft_TwoSum.f a b = some (s, e) ∧ nn a ∧ nn b ∧ nn s := by
 obtain ⟨bb, aa, t1, t2, h1, h2, h3, h4, h5, h6⟩ := h
 obtain ⟨k6, n1, n2⟩ := b_add h6 n
 obtain ⟨k5, nb, nbb⟩ := b_sub h5 n2
 obtain ⟨k4, na, naa⟩ := b_sub h4 n1
 obtain ⟨k3, ns, _⟩ := b_sub h3 naa
 obtain ⟨k2, _, _⟩ := b_sub h2 nbb
 obtain ⟨k1, _, _⟩ := b_add h1 ns
 refine ⟨?_, na, nb, ns⟩
 unfold eft_TwoSum.f
 rw [k1, Option.bind_some, k2, Option.bind_some, k3, Option.bind_some, k4, Option.bind_some, k5, Option.bind_some, k6, Option.bind_some]
theorem fast_f {a b s e : Nat} (h : FastR a b s e) (n : nn e) : eft_FastTwoSum.f a b = some (s, e) ∧ nn a ∧ nn b ∧ nn s := by
 obtain ⟨z, h1, h2, h3⟩ := h
 obtain ⟨k3, nb, nz⟩ := b_sub h3 n
 obtain ⟨k2, ns, na⟩ := b_sub h2 nz
 obtain ⟨k1, _, _⟩ := b_add h1 ns
 refine ⟨?_, na, nb, ns⟩
 unfold eft_FastTwoSum.f
 rw [k1, Option.bind_some, k2, Option.bind_some, k3, Option.bind_some]
theorem pair_f {a b s e : Nat} (h : FastR a b s e) (n : nn e) : dd_pair.f a b = some (s, e) ∧ nn a ∧ nn b ∧ nn s := by
 obtain ⟨k, q⟩ := fast_f h n
 refine ⟨?_, q⟩
 unfold dd_pair.f
 rw [k]; rfl
theorem split_f {a h l : Nat} (H : SplitR a h l) (n : nn l) : eft_Split.f a = some (h, l) ∧ nn a ∧ nn h := by
 obtain ⟨c, d, h1, h2, h3, h4⟩ := H
 obtain ⟨k4, na, nh⟩ := b_sub h4 n
 obtain ⟨k3, nc, nd⟩ := b_sub h3 nh
 obtain ⟨k2, _, _⟩ := b_sub h2 nd
 obtain ⟨k1, _, _⟩ := b_mul h1 nc
 refine ⟨?_, na, nh⟩
 unfold eft_Split.f
 rw [k1, Option.bind_some, k2, Option.bind_some, k3, Option.bind_some, k4, Option.bind_some]
theorem prod_f {a b p e : Nat} (h : ProdR a b p e) (n : nn e) : eft_TwoProd.f a b = some (p, e) ∧ nn a ∧ nn b ∧ nn p := by
 obtain ⟨ah, al, bh, bl, x1, e1, x2, e2, x3, e3, x4, hp, sa, sb, h1, k1, h2, k2, h3, k3, h4, k4⟩ := h
 obtain ⟨q11, n3, nx4⟩ := b_add k4 n
 obtain ⟨q10, nal, nbl⟩ := b_mul h4 nx4
 obtain ⟨q9, n2, nx3⟩ := b_add k3 n3
 obtain ⟨q8, _, nbh⟩ := b_mul h3 nx3
 obtain ⟨q7, n1, nx2⟩ := b_add k2 n2
 obtain ⟨q6, nah, _⟩ := b_mul h2 nx2
 obtain ⟨q5, nx1, np⟩ := b_sub k1 n1
 obtain ⟨q4, _, _⟩ := b_mul h1 nx1
 obtain ⟨q3, nb, _⟩ := split_f sb nbl
 obtain ⟨q2, na, _⟩ := split_f sa nal
 obtain ⟨q1, _, _⟩ := b_mul hp np
 refine ⟨?_, na, nb, np⟩
 unfold eft_TwoProd.f
 rw [q1, Option.bind_some, q2, Option.bind_some, q3, Option.bind_some, q4, Option.bind_some, q5, Option.bind_some, q6, Option.bind_some, q7, Option.bind_some, q8, Option.bind_some, q9, Option.bind_some, q10, Option.bind_some, q11, Option.bind_some]
theorem sum_f {a b s e : Nat} (h : TwoSumR a b s e) (n : nn e) : dd_Sum.f a b = some (s, e) := by
 unfold dd_Sum.f
 rw [(two_f h n).1]; rfl
theorem add_f {xh xl yh yl zh zl : Nat} (h : AddR xh xl yh yl zh zl) (n : nn zl) : dd_Add.f xh xl yh yl = some (zh, zl) := by
 obtain ⟨s, e, t, f, c, vh, vl, w, h1, h2, h3, h4, h5, h6⟩ := h
 obtain ⟨q6, nvh, nw, _⟩ := pair_f h6 n
 obtain ⟨q5, nf, nvl⟩ := b_add h5 nw
 obtain ⟨q4, ns, nc, _⟩ := pair_f h4 nvl
 obtain ⟨q3, ne, nt⟩ := b_add h3 nc
 obtain ⟨q2, _, _, _⟩ := two_f h2 nf
 obtain ⟨q1, _, _, _⟩ := two_f h1 ne
 unfold dd_Add.f
 rw [q1, Option.bind_some, q2, Option.bind_some, q3, Option.bind_some, q4, Option.bind_some, q5, Option.bind_some, q6, Option.bind_some]
theorem mul_f {xh xl yh yl zh zl : Nat} (h : MulR xh xl yh yl zh zl) (n : nn zl) : dd_Mul.f xh xl yh yl = some (zh, zl) := by
 obtain ⟨p, e, m1, m2, c, w, h1, h2, h3, h4, h5, h6⟩ := h
 obtain ⟨q6, np, nw, _⟩ := pair_f h6 n
 obtain ⟨q5, ne, nc⟩ := b_add h5 nw
 obtain ⟨q4, nm1, nm2⟩ := b_add h4 nc
 obtain ⟨q3, _, _⟩ := b_mul h3 nm2
 obtain ⟨q2, _, _⟩ := b_mul h2 nm1
 obtain ⟨q1, _⟩ := prod_f h1 ne
 unfold dd_Mul.f
 rw [q1, Option.bind_some, q2, Option.bind_some, q3, Option.bind_some, q4, Option.bind_some, q5, Option.bind_some, q6, Option.bind_some]
theorem mulf_f {xh xl f zh zl : Nat} (h : MulfR xh xl f zh zl) (n : nn zl) : dd_MulFloat.f xh xl f = some (zh, zl) := by
 obtain ⟨p, e, m, vh, vl, w, h1, h2, h3, h4, h5⟩ := h
 obtain ⟨q5, nvh, nw, _⟩ := pair_f h5 n
 obtain ⟨q4, nvl, ne⟩ := b_add h4 nw
 obtain ⟨q3, np, nm, _⟩ := pair_f h3 nvl
 obtain ⟨q2, _, _⟩ := b_mul h2 nm
 obtain ⟨q1, _⟩ := prod_f h1 ne
 unfold dd_MulFloat.f
 rw [q1, Option.bind_some, q2, Option.bind_some, q3, Option.bind_some, q4, Option.bind_some, q5, Option.bind_some]
theorem sqr_f {xh xl zh zl : Nat} (h : MulR xh xl xh xl zh zl) (n : nn zl) : dd_Sqr.f xh xl = some (zh, zl) := by
 unfold dd_Sqr.f
 rw [mul_f h n]; rfl
theorem div_f {xh xl yh yl zh zl : Nat} (h : DivR xh xl yh yl zh zl) (n : nn zl) : dd_Div.f xh xl yh yl = some (zh, zl) := by
 obtain ⟨q, rh, rl, d1, d2, l, t, h1, h2, h3, h4, h5, h6, h7⟩ := h
 obtain ⟨q7, nq, nt, _⟩ := pair_f h7 n
 obtain ⟨q6, nl, _⟩ := b_div h6 nt
 obtain ⟨q5, nd1, nd2⟩ := b_add h5 nl
 obtain ⟨q4, _, nrl⟩ := b_sub h4 nd2
 obtain ⟨q3, _, _⟩ := b_sub h3 nd1
 have q2 := mulf_f h2 nrl
 obtain ⟨q1, _, _⟩ := b_div h1 nq
 unfold dd_Div.f
 rw [q1, Option.bind_some, q2, Option.bind_some, q3, Option.bind_some, q4, Option.bind_some, q5, Option.bind_some, q6, Option.bind_some, q7, Option.bind_some]
theorem FormP_Frm {x y : Nat} (hx : x < 2^64) (hy : y < 2^64) (F : DdV.FormP x y) : Frm x y := ⟨hx, hy, F.1, F.2.1, F.2.2⟩
theorem Frm_FormP {x y : Nat} (F : Frm x y) : DdV.FormP x y := ⟨F.fh, F.fl, F.hx⟩
theorem add_any {xh xl yh yl : Nat} (X : Frm xh xl) (Y : Frm yh yl) (fx : fitS xh) (fy : fitS yh) :
  ∃ zh zl, dd_Add.f xh xl yh yl = some (zh, zl) ∧ Frm zh zl ∧ 2^103 * (V zh zl - (V xh xl + V yh yl)).natAbs ≤ (V xh xl + V yh yl).natAbs := by
 obtain ⟨zh, zl, h⟩ := add_ex xh xl yh yl
 obtain ⟨F, r⟩ := add_law h X Y (fit_T fx) (fit_T fy)
 exact ⟨zh, zl, add_f h (nn_fin F.fl), F, r⟩
theorem neg_Frm {x y : Nat} (F : Frm x y) : Frm (Op.negFloat .f64 x) (Op.negFloat .f64 y) := by
 have a := DdV.neg_w F.lh
 have b := DdV.neg_w F.ll
 exact FormP_Frm a.1 b.1 ((DdV.neg_form F.lh F.ll).2 (Frm_FormP F))
theorem neg_fit {x : Nat} (hx : x < 2^64) (h : fitS x) : fitS (Op.negFloat .f64 x) := by
 have a := DdV.neg_w hx
 unfold fitS
 rw [a.2.1]; exact h
theorem sub_any {xh xl yh yl : Nat} (X : Frm xh xl) (Y : Frm yh yl) (fx : fitS xh) (fy : fitS yh) :
  ∃ zh zl, dd_Sub.f xh xl yh yl = some (zh, zl) ∧ Frm zh zl ∧ 2^103 * (V zh zl - (V xh xl - V yh yl)).natAbs ≤ (V xh xl - V yh yl).natAbs := by
 obtain ⟨zh, zl, e, F, r⟩ := add_any X (neg_Frm Y) fx (neg_fit Y.lh fy)
 rw [DdV.neg_V Y.lh Y.ll, ← Int.sub_eq_add_neg] at r
 refine ⟨zh, zl, ?_, F, r⟩
 unfold dd_Sub.f dd_Neg.f
 rw [Option.bind_some, e]; rfl
theorem mul_any {xh xl yh yl : Nat} (X : Frm xh xl) (Y : Frm yh yl) (fx : fitS xh) (fy : fitS yh) :
  ∃ zh zl, dd_Mul.f xh xl yh yl = some (zh, zl) ∧ Frm zh zl ∧ ∃ g, g = 1074 ∧ 2^102 * (V zh zl * 2^g - V xh xl * V yh yl).natAbs ≤ (V xh xl * V yh yl).natAbs := by
 obtain ⟨zh, zl, h⟩ := mul_ex xh xl yh yl
 obtain ⟨F, r⟩ := mul_law h X Y fx fy
 exact ⟨zh, zl, mul_f h (nn_fin F.fl), F, r⟩
theorem sqr_any {xh xl : Nat} (X : Frm xh xl) (fx : fitS xh) :
  ∃ zh zl, dd_Sqr.f xh xl = some (zh, zl) ∧ Frm zh zl ∧ ∃ g, g = 1074 ∧ 2^102 * (V zh zl * 2^g - V xh xl * V xh xl).natAbs ≤ (V xh xl * V xh xl).natAbs := by
 obtain ⟨zh, zl, h⟩ := mul_ex xh xl xh xl
 obtain ⟨F, r⟩ := mul_law h X X fx fx
 exact ⟨zh, zl, sqr_f h (nn_fin F.fl), F, r⟩
theorem mulf_fit {xh xl f : Nat} (X : Frm xh xl) (fx : fitS xh) (ff : fitS f) :
  ∃ zh zl, dd_MulFloat.f xh xl f = some (zh, zl) ∧ Frm zh zl ∧ ∃ g, g = 1074 ∧ 2^103 * (V zh zl * 2^g - V xh xl * Fl.U f).natAbs ≤ (V xh xl * Fl.U f).natAbs := by
 obtain ⟨g, hg⟩ : ∃ g : Nat, g = 1074 := ⟨_, rfl⟩
 obtain ⟨zh, zl, h⟩ := mulf_ex xh xl f
 obtain ⟨_, n, k, hn, hk, lox, hix⟩ := fit_bounds fx
 obtain ⟨f1, n', k', hn', hk', loy, hiy⟩ := fit_bounds ff
 have lo := prod_lo (a := xh) (b := f) hg (lox.imp id fun h => ⟨n, by omega, h⟩) (loy.imp id fun h => ⟨n', by omega, h⟩)
 have hi : (Fl.U xh * Fl.U f).natAbs ≤ 1 * EftLaw.T0 * 2^g := by
  rw [Int.natAbs_mul, Nat.one_mul]
  refine Nat.le_trans (Nat.mul_le_mul hix hiy) ?_
  unfold EftLaw.T0
  rw [← Nat.pow_add, ← Nat.pow_add]
  exact Nat.pow_le_pow_right (by decide) (by have := Fl.TE_eq; omega)
 have s995 : ∀ {x}, fitS x → sz x ≤ 2018 * 2^52 := fun h => by rcases h with h | h <;> omega
 obtain ⟨F, r1, r2, _⟩ := mulf_law hg h X (s995 fx) f1 (s995 ff) lo hi
 refine ⟨zh, zl, mulf_f h (nn_fin F.fl), F, g, hg, ?_⟩
 generalize (V zh zl * 2^g - V xh xl * Fl.U f).natAbs = a at *
 generalize (Fl.U xh * Fl.U f).natAbs = b at *
 generalize (V xh xl * Fl.U f).natAbs = c at *
 clear lo hi lox hix loy hiy
 omega
theorem div_any {xh xl yh yl : Nat} (X : Frm xh xl) (Y : Frm yh yl) (fx : fitS xh) (fy : fitS yh) (y0 : Fl.U yh ≠ 0) :
  ∃ zh zl, dd_Div.f xh xl yh yl = some (zh, zl) ∧ Frm zh zl ∧ ∃ g, g = 1074 ∧ 2^100 * (V zh zl * V yh yl - V xh xl * 2^g).natAbs ≤ (V xh xl * 2^g).natAbs := by
 obtain ⟨zh, zl, h⟩ := div_ex xh xl yh yl
 obtain ⟨F, r⟩ := div_law h X Y fx fy y0
 exact ⟨zh, zl, div_f h (nn_fin F.fl), F, r⟩
theorem sum_any {a b : Nat} (fa : fin a) (fb : fin b) (ba : (Fl.U a).natAbs ≤ 1 * EftLaw.T0) (bb : (Fl.U b).natAbs ≤ 1 * EftLaw.T0) :
  ∃ s e, dd_Sum.f a b = some (s, e) ∧ Frm s e ∧ V s e = Fl.U a + Fl.U b := by
 obtain ⟨s, e, h⟩ := two_ex a b
 obtain ⟨fs, fe, h1, h2, _⟩ := two_law h fa fb ba bb (by decide)
 refine ⟨s, e, sum_f h (nn_fin fe), ⟨?_, ?_, fs, fe, by rw [h2]; exact h1⟩, h2⟩
 ·obtain ⟨_, _, _, _, k, _⟩ := h; exact k.lt
 ·obtain ⟨_, _, _, _, _, _, _, _, _, k⟩ := h; exact k.lt
end Go.Proofs.YtapikmfckpgjoaaGreatDoor.DdE
