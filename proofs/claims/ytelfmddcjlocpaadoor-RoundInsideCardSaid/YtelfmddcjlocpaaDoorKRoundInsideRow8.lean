/- What the rows of these seats share: the door's heap meets the condition on math/bits.deBruijn64tab; how lists of words, dyadics and spans open. No condition beyond the rows' own. -/
import Derived.Test.YtelfmddcjlocpaaDoorRows
import Derived.Test.YtelfmddcjlocpaaDoorKRoundInsideGTab
import Derived.WalkKit
import Derived.ProofKit
import Derived.OpenShut
import Derived.ShutString
import Derived.ChangeOld
import Derived.Below
import Derived.SizedLaws
import Derived.Deep.Slices
import Derived.Deep.Fields
import Derived.ChangeSame
import Derived.LaidMore
import Derived.Stop.Joined
namespace Go.Proofs.YtelfmddcjlocpaaDoor.Row8
open Go.ChangeShapes Go.WideShapes Go.ChangeAt Go.RowKit Go.Deep Go.Proofs.YtelfmddcjlocpaaDoorW.PrintWords Go.Proofs.YtelfmddcjlocpaaDoor.GTab
set_option linter.unusedVariables false
theorem own : ownKnob Tryd.prog.godebug = none := by kernel_rfl
theorem laidOut : laidOutB Tryd.prog = true := by kernel_rfl
def tabs : List (String × DataW Unit) := [("math/bits.deBruijn64tab", Rows.laid_math_bits_deBruijn64tab)]
theorem door_met (os : Os) (args : Array Value) : laidMetH Tryd.prog tabs ((World.doorLaid Tryd.prog 14 os).forCall (fun _ _ => 0) ⟨#[], args, []⟩).memory :=
 laidMetH_of_parts3 (fuel := 8) (laidMet_of_run' 8 (by kernel_rfl) (by kernel_rfl)) (by kernel_rfl) (by kernel_rfl)
def zs : List Int := Lib.deBruijn64tab.map fun (n : Nat) => (n : Int)
theorem tab_data : (Rows.laid_math_bits_deBruijn64tab : DataW Unit) = Lib.tabData .u8 zs := by rfl
theorem zs_at : ∀ j, j < 64 → zs[j]? = some ((Lib.deBruijn64tab.getD j 0 : Nat) : Int) := by decide +kernel
theorem of_laid {W : World} (h : laidMetH Tryd.prog tabs W) : Tab W := by
 rw [MakeChecks.laidMetH_plain _ _ _ (by kernel_rfl)] at h
 unfold tabs at h
 rw [tab_data] at h
 have t := Lib.tabIs_of_head (g := 1) (t := 165) (e := 5) (n := 64) (by kernel_rfl) (by kernel_rfl) Tryd.underlying165 Tryd.underlying5 (by kernel_rfl) (by kernel_rfl) h
 unfold Lib.TabIs at t
 refine ⟨fun j hj => ?_⟩
 have := World.var?_cell (show Tryd.prog.globalNamed "math/bits.deBruijn64tab" = some 1 by kernel_rfl) t j
 rw [this]
 simp [zs_at j hj]
structure IsL (w : World) (A : Option Addr) (len cap : Nat) (l : List Int) : Prop where mk :: (c : Kd.C (Kd.int .u64) w A l.length l) (cap : l.length ≤ cap) (len : l.length = len) (wf : ∀ d ∈ l, 0 ≤ d ∧ d < 18446744073709551616)
section
variable {H : Type} {enc : TypeId × Value → H} {w : World} {base : Nat} {spare : Nat → Bool} {held : Bool}
theorem open_words {fuel : Nat} {cs : List Value} {x : DataW H × List MemPlace} (h : DataW.trod enc Tryd.prog w base spare held fuel 22 cs = some x) : ∃ A len cap l, cs = [.slice A len cap] ∧ IsL w A len cap l := by
 rcases open_ints Tryd.underlying22 Tryd.underlying31 (by kernel_rfl) h with ⟨rfl, _⟩ | ⟨a, len, cap, zs, rfl, _, hl, hm, hz, _, hcell, hw⟩
 ·exact ⟨none, 0, 0, [], rfl, ⟨rfl, by decide, fun h0 => absurd h0 (by decide)⟩, Nat.le_refl _, rfl, fun d hd => by cases hd⟩
 ·have hlz : len ≤ zs.length := by rw [hz]; split <;> omega
  have hlen : (zs.take len).length = len := by rw [List.length_take]; omega
  refine ⟨some a, len, cap, zs.take len, rfl, ?_, by omega, hlen, fun d hd => ?_⟩
  ·refine Kd.C_of_reads (d := 0) ⟨rfl, by unfold maxLen at hm; omega, fun _ => ⟨a, rfl, fun j hj => ?_⟩⟩
   rw [hlen] at hj
   have e : (zs.take len).getD j 0 = zs.getD j 0 := by
    rw [List.getD_eq_getElem?_getD, List.getD_eq_getElem?_getD, List.getElem?_take_of_lt hj]
   rw [e]
   exact hcell j (by omega)
  ·have := hw d (List.mem_of_mem_take hd)
   simp [Lit.wf] at this
   have e1 : IntKind.u64.min = 0 := rfl
   have e2 : IntKind.u64.max = 18446744073709551615 := rfl
   omega
set_option maxRecDepth 100000 in
theorem open_dy {fuel : Nat} {cs : List Value} {x : DataW H × List MemPlace} (h : DataW.trod enc Tryd.prog w base spare held fuel 26 cs = some x) :
  ∃ neg A len cap l e, cs = [.bool neg, .slice A len cap, .int .i64 e] ∧ IsL w A len cap l := by
 obtain ⟨xs, n, _, _, hc, hx, hf⟩ := DataW.trod_struct Tryd.underlying26 h
 have hc : cs.length = 3 := hc.trans (show Tryd.prog.cellsOf 26 = 3 by kernel_rfl)
 match cs, hc with
 | [c0, c1, c2], _ =>
  have f0 := hf 0 _ rfl
  have f1 := hf 1 _ rfl
  have hx2 : xs.length = 2 := hx
  match xs, hx2 with
  | [y0, y1], _ =>
   have f0 : DataW.trod enc Tryd.prog w base spare held n 24 [c0, c1] = some y0 := f0
   have f1 : DataW.trod enc Tryd.prog w base spare held n 3 [c2] = some y1 := f1
   obtain ⟨zs, n', _, _, _, hz, hg⟩ := DataW.trod_struct Tryd.underlying24 f0
   have hz2 : zs.length = 2 := hz
   match zs, hz2 with
   | [z0, z1], _ =>
    have g0 : DataW.trod enc Tryd.prog w base spare held n' 4 [c0] = some z0 := hg 0 _ rfl
    have g1 : DataW.trod enc Tryd.prog w base spare held n' 22 [c1] = some z1 := hg 1 _ rfl
    obtain ⟨b, e0, _⟩ := DataW.trod_bool Tryd.underlying4 g0
    obtain ⟨A, len, cap, l, e1, hl⟩ := open_words g1
    obtain ⟨e, e2, _, _⟩ := DataW.trod_int Tryd.underlying3 f1
    obtain rfl := List.head_eq_of_cons_eq e0
    obtain rfl := List.head_eq_of_cons_eq e1
    obtain rfl := List.head_eq_of_cons_eq e2
    exact ⟨b, A, len, cap, l, e, rfl, hl⟩
set_option maxRecDepth 100000 in
theorem arg_dy {r : Reach} {b0 : Nat} {v : Value} {d : DataW H} {p : List MemPlace} (hv : Value.okWide Tryd.prog w r b0 26 v) (h : DataW.Trod enc Tryd.prog w base spare held 26 v d p) :
  ∃ neg A len cap l e, v = .agg #[.bool neg, .slice A len cap, .int .i64 e] ∧ IsL w A len cap l := by
 obtain ⟨cs, rfl, hsz⟩ := okWide_struct Tryd.underlying26 hv
 obtain ⟨l⟩ := cs
 obtain ⟨fuel, hf⟩ := h
 have hf : DataW.trod enc Tryd.prog w base spare held fuel 26 l = some (d, p) := by simpa [Value.cells] using hf
 obtain ⟨neg, A, len, cap, m, e, rfl, hl⟩ := open_dy hf
 exact ⟨neg, A, len, cap, m, e, rfl, hl⟩
end
end Go.Proofs.YtelfmddcjlocpaaDoor.Row8
