/- The question whether a double-double lies within 2^-e of an exact number: plain Lean over the functions. Condition: bounded numbers.  -/
import Derived.Test.YtapikmfckpgjoaaDoorKDdUndoesDdE
import Derived.Test.YtapikmfckpgjoaaDoorKDdUndoesPxL2
import Derived.Test.YtapikmfckpgjoaaDoorKDdUndoesPxL1
import Derived.Test.YtapikmfckpgjoaaDoorKDdUndoesPxL0
import Derived.Test.YtapikmfckpgjoaaDoorProg
import Derived.Test.YtapikmfckpgjoaaDoorKDdUndoesGiven
import Derived.Below
import Derived.Deep.Draws
import Derived.Deep.AppendLies
import Derived.Maps.AppendAt
import Derived.OwnWalk
import Derived.Laws.BytesArg
import Derived.Laws.MakeOwn
import Derived.Laws.OwnMore
import Derived.Deep.OwnRows
import Derived.Tactics
import Derived.Lib.ConvBytes
import Derived.Laws.Slices
import Derived.WalkKit
import Derived.KernelRfl
import Derived.RowKit3
import Derived.Deep.LoopGhost
import Derived.Deep.QuietTactic
import Derived.BigQuiet
import Derived.WideLaws
import Derived.Deep.DeepCutAuto
import Derived.Deep.CutBlock
import Derived.Deep.RegionHeld3
import Derived.Laws.Rows
import Derived.Lib.AppendStr
import Derived.ArgAppend
import Derived.Laws.IdiomCopy
import Derived.OrdersHeld
import Derived.Laws.BitsLemmas
import Derived.RowKit
import Derived.Test.YtapikmfckpgjoaaDoorKDdUndoesWWords
import Derived.Test.YtapikmfckpgjoaaDoorKDdUndoesWLast
import Derived.Test.YtapikmfckpgjoaaDoorKDdUndoesWGuard
import Derived.Test.YtapikmfckpgjoaaDoorKDdUndoesNum
import Derived.Laws.StructEq
import Derived.Test.YtapikmfckpgjoaaDoorKDdUndoesPLenx1
section
set_option linter.unusedVariables false
namespace Go.Proofs.YtapikmfckpgjoaaDoor.DdWi
open Go.RowKit Go.Proofs.YtapikmfckpgjoaaDoorW.PrintWords Go.Proofs.YtapikmfckpgjoaaDoorW.PrintMore Go.Proofs.YtapikmfckpgjoaaDoor.Num Go.Proofs.YtapikmfckpgjoaaDoor.PLib Go.Proofs.YtapikmfckpgjoaaDoor.Ref Go.Proofs.YtapikmfckpgjoaaDoor.GTh Go.Proofs.YtapikmfckpgjoaaDoor.Given Go.Proofs.YtapikmfckpgjoaaDoor.Rp1 Go.Proofs.YtapikmfckpgjoaaDoor.Rp2 Go.Proofs.YtapikmfckpgjoaaDoor.Rp3 Go.Proofs.YtapikmfckpgjoaaDoor.Rp4 Go.Proofs.YtapikmfckpgjoaaDoor.Rp5 Go.Proofs.YtapikmfckpgjoaaDoor.Rp7 Go.Proofs.YtapikmfckpgjoaaDoor.BinLaw Go.Proofs.YtapikmfckpgjoaaDoor.Fm8 Go.Proofs.YtapikmfckpgjoaaDoor.Rnd Go.Proofs.YtapikmfckpgjoaaDoor.Px Go.Proofs.YtapikmfckpgjoaaDoor.DdB Go.Proofs.YtapikmfckpgjoaaDoor.DdV Go.Proofs.YtapikmfckpgjoaaDoor.DdE
theorem wi_awake : gnomonlaw20_awake.f = some true := by decide +kernel
theorem wi_float (a : Nat) : gnomonlaw20_float.f (a : Int) = some a := by
 unfold gnomonlaw20_float.f
 rw [Int.toNat_natCast]
theorem wi_pair (a b : Nat) : gnomonlaw20_pair.f (a : Int) (b : Int) = some (a, b) := by
 unfold gnomonlaw20_pair.f
 rw [wi_float, wi_float]; rfl
theorem wi_u64 {a : Int} (w : (Lit.int .u64 a).wf = true) : ∃ n : Nat, a = (n : Int) ∧ n < 18446744073709551616 := by
 have e1 : IntKind.u64.min = 0 := rfl
 have e2 : IntKind.u64.max = 18446744073709551615 := rfl
 have h : IntKind.u64.min ≤ a ∧ a ≤ IntKind.u64.max := by simpa [Lit.wf] using w
 exact ⟨a.toNat, by omega, by omega⟩
theorem wi_V (x y : Nat) : bl (V x y).natAbs ≤ 2102 := by
 unfold V
 exact Nat.le_trans (bl_mono (Int.natAbs_add_le _ _)) (bl_add (ddv_blU x) (ddv_blU y))
theorem bl_scale {A n : Nat} : bl (A * 2^n) ≤ bl A + n := by
 by_cases c : A = 0
 ·rw [c, Nat.zero_mul]; rw [show bl 0 = 0 from rfl]; omega
 ·rw [bl_mul _ _ c]; exact Nat.le_refl _
theorem size_any {E : Int} {n n' : Bool} {m m' : Nat} {x x' A B : Int} (h : Dy E n m x A) (h' : Dy E n' m' x' B) : Ev (fun k => gnomonlaw20_size.f k n (lb m) x n' (lb m') x') (cmZ ((A.natAbs : Nat) : Int) ((B.natAbs : Nat) : Int)) := by
 have abs1 : ∃ n1, Dy E n1 m x ((A.natAbs : Nat) : Int) ∧ ((n = true ∧ Ev (fun k => dyadic_Neg.f k n (lb m) x) (n1, lb m, x, 0)) ∨ (n = false ∧ n1 = n)) := by
  have hn := h.neg
  by_cases c : A < 0
  ·obtain ⟨n1, d, e⟩ := neg_dy h
   rw [decide_eq_true c] at hn
   exact ⟨n1, by rw [show ((A.natAbs : Nat) : Int) = -A by omega]; exact d, .inl ⟨hn, e⟩⟩
  ·rw [decide_eq_false c] at hn
   exact ⟨n, by rw [show ((A.natAbs : Nat) : Int) = A by omega]; exact h, .inr ⟨hn, rfl⟩⟩
 have abs2 : ∃ n1, Dy E n1 m' x' ((B.natAbs : Nat) : Int) ∧ ((n' = true ∧ Ev (fun k => dyadic_Neg.f k n' (lb m') x') (n1, lb m', x', 0)) ∨ (n' = false ∧ n1 = n')) := by
  have hn := h'.neg
  by_cases c : B < 0
  ·obtain ⟨n1, d, e⟩ := neg_dy h'
   rw [decide_eq_true c] at hn
   exact ⟨n1, by rw [show ((B.natAbs : Nat) : Int) = -B by omega]; exact d, .inl ⟨hn, e⟩⟩
  ·rw [decide_eq_false c] at hn
   exact ⟨n', by rw [show ((B.natAbs : Nat) : Int) = B by omega]; exact h', .inr ⟨hn, rfl⟩⟩
 obtain ⟨n1, d1, e1⟩ := abs1
 obtain ⟨n2, d2, e2⟩ := abs2
 have c := dcmp_ev d1.dk d2.dk
 rw [dcm_vs d1.le d2.le, d1.va, d2.va] at c
 unfold gnomonlaw20_size.f
 rcases e1 with ⟨rfl, e1⟩ | ⟨rfl, rfl⟩
 ·refine Ev.congr (fun k => if_pos rfl) (Ev.bind e1 ?_)
  rcases e2 with ⟨rfl, e2⟩ | ⟨rfl, rfl⟩
  ·exact Ev.congr (fun k => if_pos rfl) (Ev.bind e2 (Ev.bind c (Ev.congr (fun k => if_pos rfl) (Ev.now _))))
  ·exact Ev.congr (fun k => if_neg (by decide)) (Ev.bind c (Ev.congr (fun k => if_pos rfl) (Ev.now _)))
 ·refine Ev.congr (fun k => if_neg (by decide)) ?_
  rcases e2 with ⟨rfl, e2⟩ | ⟨rfl, rfl⟩
  ·exact Ev.congr (fun k => if_pos rfl) (Ev.bind e2 (Ev.bind c (Ev.congr (fun k => if_pos rfl) (Ev.now _))))
  ·exact Ev.congr (fun k => if_neg (by decide)) (Ev.bind c (Ev.congr (fun k => if_pos rfl) (Ev.now _)))
theorem within_any {a b : Nat} (F : Frm a b) {E : Int} {K : Nat} (hE : E = -1074 - (K : Int)) (hK : K ≤ 2000) {n : Bool} {m : Nat} {x Y : Int} (dy : Dy E n m x Y) (hY : bl Y.natAbs ≤ 20000) (e : Nat) (he : e ≤ 110) (hb : 2^e * (V a b * 2^K - Y).natAbs ≤ Y.natAbs) :
  Ev (fun k => gnomonlaw20_within.f k a b n (lb m) x (e : Int)) true := by
 have ha := F.lh
 have hb' := F.ll
 have FP := Frm_FormP F
 obtain ⟨n1, m1, x1, d1, e1⟩ := value_f ha hb' FP
 have d1' := d1.down K
 rw [← hE] at d1'
 have pc : ((2^K : Nat) : Int) = (2:Int)^K := by rw [Int.natCast_pow]; rfl
 rw [pc] at d1'
 have b1 : bl (V a b * 2^K).natAbs ≤ 5000 := by
  rw [Int.natAbs_mul, Int.natAbs_pow]
  have := bl_scale (A := (V a b).natAbs) (n := K)
  have := wi_V a b
  show bl ((V a b).natAbs * 2^K) ≤ 5000
  omega
 obtain ⟨n2, c, y, d2, e2⟩ := sub_dy d1' dy (by omega) (by omega) (by omega) (by omega)
 have bo : bl (V a b * 2^K - Y).natAbs ≤ 20001 := by
  have t : (V a b * 2^K - Y).natAbs ≤ (V a b * 2^K).natAbs + Y.natAbs := by omega
  exact Nat.le_trans (bl_mono t) (bl_add (by omega) hY)
 have ylo := d2.le
 have yhi : y ≤ 30000 := by
  by_cases c0 : c = 0
  ·have := (d2.dk.zero c0).2; omega
  ·have := d2.bl c0; omega
 obtain ⟨y', d3, e3⟩ := scale_dy d2 (e : Int) (by omega) (by omega) (by omega) (by omega)
 have d4 := d3.down e
 rw [show E + (e : Int) - (e : Int) = E by omega] at d4
 have s := size_any d4 dy
 have pe : ((2^e : Nat) : Int) = (2:Int)^e := by rw [Int.natCast_pow]; rfl
 have le : cmZ ((((V a b * 2^K - Y) * ((2^e : Nat) : Int)).natAbs : Nat) : Int) ((Y.natAbs : Nat) : Int) ≤ 0 := by
  rw [cmZ_le, Int.natAbs_mul, Int.natAbs_natCast, Nat.mul_comm]
  exact Int.ofNat_le.2 hb
 have ff := ((form_f ha hb').resolve_right fun h => h.1 FP).2
 unfold gnomonlaw20_within.f
 refine Ev.bind e1 (Ev.bind e2 (Ev.bind e3 (Ev.congr (fun k => if_pos rfl) (Ev.congr (fun k => if_pos rfl) (Ev.congr (fun k => if_pos rfl) (Ev.bind (ev_of ff) (Ev.congr (fun k => if_pos rfl) (Ev.bind s ?_))))))))
 rw [decide_eq_true le]
 exact Ev.now _
end Go.Proofs.YtapikmfckpgjoaaDoor.DdWi
end
section
namespace Go.Proofs.YtapikmfckpgjoaaDoor.PRef
open Go.RowKit Go.Proofs.YtapikmfckpgjoaaDoorW.PrintWords Go.Proofs.YtapikmfckpgjoaaDoorW.PrintLast Go.Proofs.YtapikmfckpgjoaaDoorW.PrintMore Go.Proofs.YtapikmfckpgjoaaDoor.Given Go.Proofs.YtapikmfckpgjoaaDoor.GTab
attribute [local go_sem] max2_int min2_int max_two min_two max_three min_three max_four min_four   -- for this text's walks alone
set_option linter.unusedVariables false
set_option linter.unusedSimpArgs false
def errW : Option Int → Value
 | none => .nilIface
 | some c => .iface 0 (.int .i64 c)
theorem errW_none : errW none = .nilIface := rfl
theorem errW_some (c : Int) : errW (some c) = .iface 0 (.int .i64 c) := rfl
theorem info141 : (Tryd.prog.info? 141).map (fun i => (i.zero, i.size, i.bytes)) = some (some (.int .u32 0), 1, 4) := by kernel_rfl
end Go.Proofs.YtapikmfckpgjoaaDoor.PRef
end
