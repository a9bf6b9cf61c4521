/- The functions of eft and dd answer just what their steps' relations say, where the answer is no NaN. Plain Lean over the functions. No condition. The question whether a double-double lies within 2^-e of an exact number: plain Lean over the functions. Condition: bounded numbers. -/
import Derived.Test.YtapikmfckpgjoaaGreatDoorKDdFormsDdV
import Derived.Test.YtapikmfckpgjoaaGreatDoorKDdFormsPxL1
import Derived.Test.YtapikmfckpgjoaaGreatDoorKDdFormsPxL2
import Derived.Test.YtapikmfckpgjoaaGreatDoorKDdFormsPxL0
import Derived.Test.YtapikmfckpgjoaaGreatDoorProg
import Derived.Test.YtapikmfckpgjoaaGreatDoorKDdFormsGiven
import Derived.Below
import Derived.Deep.Draws
import Derived.Deep.AppendLies
import Derived.Maps.AppendAt
import Derived.OwnWalk
import Derived.Laws.BytesArg
import Derived.Laws.MakeOwn
import Derived.Laws.OwnMore
import Derived.Deep.OwnRows
import Derived.Tactics
import Derived.Lib.ConvBytes
import Derived.Laws.Slices
import Derived.WalkKit
import Derived.KernelRfl
import Derived.RowKit3
import Derived.Deep.LoopGhost
import Derived.Deep.QuietTactic
import Derived.BigQuiet
import Derived.WideLaws
import Derived.Deep.DeepCutAuto
import Derived.Deep.CutBlock
import Derived.Deep.RegionHeld3
import Derived.Laws.Rows
import Derived.Lib.AppendStr
import Derived.ArgAppend
import Derived.Laws.IdiomCopy
import Derived.OrdersHeld
import Derived.Laws.BitsLemmas
import Derived.RowKit
import Derived.Test.YtapikmfckpgjoaaGreatDoorKDdFormsWWords
import Derived.Test.YtapikmfckpgjoaaGreatDoorKDdFormsWLast
import Derived.Test.YtapikmfckpgjoaaGreatDoorKDdFormsWGuard
import Derived.Test.YtapikmfckpgjoaaGreatDoorKDdFormsNum
import Derived.Laws.StructEq
import Derived.Test.YtapikmfckpgjoaaGreatDoorKDdFormsPLenx1
section
set_option linter.unusedVariables false
namespace Go.Proofs.YtapikmfckpgjoaaGreatDoor.DdE
open Go Go.RowKit Go.Proofs.YtapikmfckpgjoaaGreatDoor.FW Go.Proofs.YtapikmfckpgjoaaGreatDoor.Eft Go.Proofs.YtapikmfckpgjoaaGreatDoor.PLib Go.Proofs.YtapikmfckpgjoaaGreatDoor.DdB
open Ieee
open Fl (sz fin INF read_nan)
def nn (x : Nat) : Prop := ¬ INF < sz x
theorem nn_fin {x : Nat} (h : fin x) : nn x := by unfold nn; have : sz x < INF := h; omega
theorem nan_l {op : BinOp} {x y : Nat} (hop : op = .add ∨ op = .sub ∨ op = .mul ∨ op = .quo) (h : INF < sz x) : floatBits op .f64 x y = none := by
 obtain ⟨s, f, e⟩ := read_nan h
 rcases hop with rfl | rfl | rfl | rfl
 ·show double.add x y = none
  unfold Format.add; rw [e]; cases double.read y <;> rfl
 ·show double.sub x y = none
  unfold Format.sub; rw [e]; cases double.read y <;> rfl
 ·show double.mul x y = none
  unfold Format.mul; rw [e]; cases double.read y <;> rfl
 ·show double.div x y = none
  unfold Format.div; rw [e]; cases double.read y <;> rfl
theorem nan_r {op : BinOp} {x y : Nat} (hop : op = .add ∨ op = .sub ∨ op = .mul ∨ op = .quo) (h : INF < sz y) : floatBits op .f64 x y = none := by
 obtain ⟨s, f, e⟩ := read_nan h
 rcases hop with rfl | rfl | rfl | rfl
 ·show double.add x y = none
  unfold Format.add; rw [e]; cases double.read x <;> rfl
 ·show double.sub x y = none
  unfold Format.sub; rw [e]; cases double.read x <;> rfl
 ·show double.mul x y = none
  unfold Format.mul; rw [e]; cases double.read x <;> rfl
 ·show double.div x y = none
  unfold Format.div; rw [e]; cases double.read x <;> rfl
theorem back {op : BinOp} {x y r : Nat} (hop : op = .add ∨ op = .sub ∨ op = .mul ∨ op = .quo) (h : FOp op x y r) (n : nn r) : floatBits op .f64 x y = some r ∧ nn x ∧ nn y := by
 rcases e : floatBits op .f64 x y with _ | v
 ·exact absurd (show INF < sz r from h.nan e) n
 ·refine ⟨by rw [h.val v e], fun q => ?_, fun q => ?_⟩
  ·rw [nan_l hop q] at e; cases e
  ·rw [nan_r hop q] at e; cases e
theorem b_add {x y r : Nat} (h : FOp .add x y r) (n : nn r) : FloatKind.f64.format.add x y = some r ∧ nn x ∧ nn y := back (by simp) h n
theorem b_sub {x y r : Nat} (h : FOp .sub x y r) (n : nn r) : FloatKind.f64.format.sub x y = some r ∧ nn x ∧ nn y := back (by simp) h n
theorem f_ex (op : BinOp) (x y : Nat) : ∃ r, FOp op x y r := by
 rcases e : floatBits op .f64 x y with _ | v
 ·exact ⟨9221120237041090561, ⟨by decide, fun v q => (by rw [e] at q; cases q), fun _ => by decide⟩⟩
 ·refine ⟨v, ⟨?_, fun u q => (by rw [e] at q; exact Option.some.inj q), fun q => (by rw [e] at q; cases q)⟩⟩
  have := floatBits_wf e
  simpa [Lit.wf] using this
theorem two_ex (a b : Nat) : ∃ s e, TwoSumR a b s e := by
 obtain ⟨s, h1⟩ := f_ex .add a b
 obtain ⟨bb, h2⟩ := f_ex .sub s a
 obtain ⟨aa, h3⟩ := f_ex .sub s bb
 obtain ⟨t1, h4⟩ := f_ex .sub a aa
 obtain ⟨t2, h5⟩ := f_ex .sub b bb
 obtain ⟨e, h6⟩ := f_ex .add t1 t2
 exact ⟨s, e, bb, aa, t1, t2, h1, h2, h3, h4, h5, h6⟩
theorem fast_ex (a b : Nat) : ∃ s e, FastR a b s e := by
 obtain ⟨s, h1⟩ := f_ex .add a b
 obtain ⟨z, h2⟩ := f_ex .sub s a
 obtain ⟨e, h3⟩ := f_ex .sub b z
 exact ⟨s, e, z, h1, h2, h3⟩
theorem add_ex (xh xl yh yl : Nat) : ∃ zh zl, AddR xh xl yh yl zh zl := by
 obtain ⟨s, e, h1⟩ := two_ex xh yh
 obtain ⟨t, f, h2⟩ := two_ex xl yl
 obtain ⟨c, h3⟩ := f_ex .add e t
 obtain ⟨vh, vl, h4⟩ := fast_ex s c
 obtain ⟨w, h5⟩ := f_ex .add f vl
 obtain ⟨zh, zl, h6⟩ := fast_ex vh w
 exact ⟨zh, zl, s, e, t, f, c, vh, vl, w, h1, h2, h3, h4, h5, h6⟩
theorem two_f {a b s e : Nat} (h : TwoSumR a b s e) (n : nn e) : eft_TwoSum.f a b = some (s, e) ∧ nn a ∧ nn b ∧ nn s := by
 obtain ⟨bb, aa, t1, t2, h1, h2, h3, h4, h5, h6⟩ := h
 obtain ⟨k6, n1, n2⟩ := b_add h6 n
 obtain ⟨k5, nb, nbb⟩ := b_sub h5 n2
 obtain ⟨k4, na, naa⟩ := b_sub h4 n1
 obtain ⟨k3, ns, _⟩ := b_sub h3 naa
 obtain ⟨k2, _, _⟩ := b_sub h2 nbb
 obtain ⟨k1, _, _⟩ := b_add h1 ns
 refine ⟨?_, na, nb, ns⟩
 unfold eft_TwoSum.f
 rw [k1, Option.bind_some, k2, Option.bind_some, k3, Option.bind_some, k4, Option.bind_some, k5, Option.bind_some, k6, Option.bind_some]
theorem fast_f {a b s e : Nat} (h : FastR a b s e) (n : nn e) : eft_FastTwoSum.f a b = some (s, e) ∧ nn a ∧ nn b ∧ nn s := by
 obtain ⟨z, h1, h2, h3⟩ := h
 obtain ⟨k3, nb, nz⟩ := b_sub h3 n
 obtain ⟨k2, ns, na⟩ := b_sub h2 nz
 obtain ⟨k1, _, _⟩ := b_add h1 ns
 refine ⟨?_, na, nb, ns⟩
 unfold eft_FastTwoSum.f
 rw [k1, Option.bind_some, k2, Option.bind_some, k3, Option.bind_some]
theorem pair_f {a b s e : Nat} (h : FastR a b s e) (n : nn e) : dd_pair.f a b = some (s, e) ∧ nn a ∧ nn b ∧ nn s := by
 obtain ⟨k, q⟩ := fast_f h n
 refine ⟨?_, q⟩
 unfold dd_pair.f
 rw [k]; rfl
theorem add_f {xh xl yh yl zh zl : Nat} (h : AddR xh xl yh yl zh zl) (n : nn zl) : dd_Add.f xh xl yh yl = some (zh, zl) := by
 obtain ⟨s, e, t, f, c, vh, vl, w, h1, h2, h3, h4, h5, h6⟩ := h
 obtain ⟨q6, nvh, nw, _⟩ := pair_f h6 n
 obtain ⟨q5, nf, nvl⟩ := b_add h5 nw
 obtain ⟨q4, ns, nc, _⟩ := pair_f h4 nvl
 obtain ⟨q3, ne, nt⟩ := b_add h3 nc
 obtain ⟨q2, _, _, _⟩ := two_f h2 nf
 obtain ⟨q1, _, _, _⟩ := two_f h1 ne
 unfold dd_Add.f
 rw [q1, Option.bind_some, q2, Option.bind_some, q3, Option.bind_some, q4, Option.bind_some, q5, Option.bind_some, q6, Option.bind_some]
theorem FormP_Frm {x y : Nat} (hx : x < 2^64) (hy : y < 2^64) (F : DdV.FormP x y) : Frm x y := ⟨hx, hy, F.1, F.2.1, F.2.2⟩
theorem Frm_FormP {x y : Nat} (F : Frm x y) : DdV.FormP x y := ⟨F.fh, F.fl, F.hx⟩
theorem add_any {xh xl yh yl : Nat} (X : Frm xh xl) (Y : Frm yh yl) (fx : fitS xh) (fy : fitS yh) :
  ∃ zh zl, dd_Add.f xh xl yh yl = some (zh, zl) ∧ Frm zh zl ∧ 2^103 * (V zh zl - (V xh xl + V yh yl)).natAbs ≤ (V xh xl + V yh yl).natAbs := by
 obtain ⟨zh, zl, h⟩ := add_ex xh xl yh yl
 obtain ⟨F, r⟩ := add_law h X Y (fit_T fx) (fit_T fy)
 exact ⟨zh, zl, add_f h (nn_fin F.fl), F, r⟩
theorem neg_Frm {x y : Nat} (F : Frm x y) : Frm (Op.negFloat .f64 x) (Op.negFloat .f64 y) := by
 have a := DdV.neg_w F.lh
 have b := DdV.neg_w F.ll
 exact FormP_Frm a.1 b.1 ((DdV.neg_form F.lh F.ll).2 (Frm_FormP F))
theorem neg_fit {x : Nat} (hx : x < 2^64) (h : fitS x) : fitS (Op.negFloat .f64 x) := by
 have a := DdV.neg_w hx
 unfold fitS
 rw [a.2.1]; exact h
theorem sub_any {xh xl yh yl : Nat} (X : Frm xh xl) (Y : Frm yh yl) (fx : fitS xh) (fy : fitS yh) :
  ∃ zh zl, dd_Sub.f xh xl yh yl = some (zh, zl) ∧ Frm zh zl ∧ 2^103 * (V zh zl - (V xh xl - V yh yl)).natAbs ≤ (V xh xl - V yh yl).natAbs := by
 obtain ⟨zh, zl, e, F, r⟩ := add_any X (neg_Frm Y) fx (neg_fit Y.lh fy)
 rw [DdV.neg_V Y.lh Y.ll, ← Int.sub_eq_add_neg] at r
 refine ⟨zh, zl, ?_, F, r⟩
 unfold dd_Sub.f dd_Neg.f
 rw [Option.bind_some, e]; rfl
end Go.Proofs.YtapikmfckpgjoaaGreatDoor.DdE
end
section
set_option linter.unusedVariables false
namespace Go.Proofs.YtapikmfckpgjoaaGreatDoor.DdWi
open Go.RowKit Go.Proofs.YtapikmfckpgjoaaGreatDoorW.PrintWords Go.Proofs.YtapikmfckpgjoaaGreatDoorW.PrintMore Go.Proofs.YtapikmfckpgjoaaGreatDoor.Num Go.Proofs.YtapikmfckpgjoaaGreatDoor.PLib Go.Proofs.YtapikmfckpgjoaaGreatDoor.Ref Go.Proofs.YtapikmfckpgjoaaGreatDoor.GTh Go.Proofs.YtapikmfckpgjoaaGreatDoor.Given Go.Proofs.YtapikmfckpgjoaaGreatDoor.Rp1 Go.Proofs.YtapikmfckpgjoaaGreatDoor.Rp2 Go.Proofs.YtapikmfckpgjoaaGreatDoor.Rp3 Go.Proofs.YtapikmfckpgjoaaGreatDoor.Rp4 Go.Proofs.YtapikmfckpgjoaaGreatDoor.Rp5 Go.Proofs.YtapikmfckpgjoaaGreatDoor.Rp7 Go.Proofs.YtapikmfckpgjoaaGreatDoor.BinLaw Go.Proofs.YtapikmfckpgjoaaGreatDoor.Fm8 Go.Proofs.YtapikmfckpgjoaaGreatDoor.Rnd Go.Proofs.YtapikmfckpgjoaaGreatDoor.Px Go.Proofs.YtapikmfckpgjoaaGreatDoor.DdB Go.Proofs.YtapikmfckpgjoaaGreatDoor.DdV Go.Proofs.YtapikmfckpgjoaaGreatDoor.DdE
theorem wi_awake : gnomonlaw20_awake.f = some true := by decide +kernel
theorem wi_float (a : Nat) : gnomonlaw20_float.f (a : Int) = some a := by
 unfold gnomonlaw20_float.f
 rw [Int.toNat_natCast]
theorem wi_pair (a b : Nat) : gnomonlaw20_pair.f (a : Int) (b : Int) = some (a, b) := by
 unfold gnomonlaw20_pair.f
 rw [wi_float, wi_float]; rfl
theorem wi_u64 {a : Int} (w : (Lit.int .u64 a).wf = true) : ∃ n : Nat, a = (n : Int) ∧ n < 18446744073709551616 := by
 have e1 : IntKind.u64.min = 0 := rfl
 have e2 : IntKind.u64.max = 18446744073709551615 := rfl
 have h : IntKind.u64.min ≤ a ∧ a ≤ IntKind.u64.max := by simpa [Lit.wf] using w
 exact ⟨a.toNat, by omega, by omega⟩
end Go.Proofs.YtapikmfckpgjoaaGreatDoor.DdWi
end
section
namespace Go.Proofs.YtapikmfckpgjoaaGreatDoor.PRef
open Go.RowKit Go.Proofs.YtapikmfckpgjoaaGreatDoorW.PrintWords Go.Proofs.YtapikmfckpgjoaaGreatDoorW.PrintLast Go.Proofs.YtapikmfckpgjoaaGreatDoorW.PrintMore Go.Proofs.YtapikmfckpgjoaaGreatDoor.Given Go.Proofs.YtapikmfckpgjoaaGreatDoor.GTab
attribute [local go_sem] max2_int min2_int max_two min_two max_three min_three max_four min_four   -- for this text's walks alone
set_option linter.unusedVariables false
set_option linter.unusedSimpArgs false
def errW : Option Int → Value
 | none => .nilIface
 | some c => .iface 0 (.int .i64 c)
theorem errW_none : errW none = .nilIface := rfl
theorem errW_some (c : Int) : errW (some c) = .iface 0 (.int .i64 c) := rfl
theorem info96 : (Tryz.prog.info? 96).map (fun i => (i.zero, i.size, i.bytes)) = some (some (.int .u32 0), 1, 4) := by kernel_rfl
end Go.Proofs.YtapikmfckpgjoaaGreatDoor.PRef
end
