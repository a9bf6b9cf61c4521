/- What every walk over rows of limbs wants: blocks of the call's own, the element's type, math/bits.Len64. Condition: words below 2^64. math/bits' table as the row's condition gives it; math/bits.TrailingZeros64 by it. Condition: the table is laid. What the rows of these seats share: the door's heap meets the condition on math/bits.deBruijn64tab; how lists of words, dyadics and spans open. No condition beyond the rows' own. Px, first part: an abstract run of the model's code over plain values, with oracles for branches and for the callees' answers. Definitions alone. No condition. -/
import Derived.Test.YtelfmddcjlocpaaGreatDoorKRoundQuotedBl
import Derived.Test.YtelfmddcjlocpaaGreatDoorKRoundQuotedPLenx1
import Derived.Test.YtelfmddcjlocpaaGreatDoorKRoundQuotedWLast
import Derived.WalkLawsBesides
import Derived.Laws.Externs
import Derived.Laws.BitsAllLaws
import Derived.Deep.Draws
import Derived.Below
import Derived.Handy
import Derived.Deep.RegionHeld3
import Derived.Lib.Hide
import Derived.OwnWalk
import Derived.Laws.OwnMore
import Derived.Shelf.Spec.TrailingZeros
import Derived.Lib.LaidTab
import Derived.Test.YtelfmddcjlocpaaGreatDoorRows
import Derived.WalkKit
import Derived.ProofKit
import Derived.OpenShut
import Derived.ShutString
import Derived.ChangeOld
import Derived.SizedLaws
import Derived.Deep.Slices
import Derived.Deep.Fields
import Derived.ChangeSame
import Derived.LaidMore
import Derived.Stop.Joined
import Derived.Orders
import Derived.KernelRfl
section
namespace Go.Proofs.YtelfmddcjlocpaaGreatDoor.GBase
open Go.RowKit Go.Proofs.YtelfmddcjlocpaaGreatDoorW.PrintWords Go.Proofs.YtelfmddcjlocpaaGreatDoorW.PrintMore Go.Proofs.YtelfmddcjlocpaaGreatDoor.Num Go.Proofs.YtelfmddcjlocpaaGreatDoor.PLen Go.Proofs.YtelfmddcjlocpaaGreatDoor.Ref
theorem box (w : World) (o : Obj) : Below w.heap.size w (w.alloc o) := (Below.refl _ _).alloc (Nat.le_refl _) _
theorem on {W w w' : World} (h : Below W.heap.size W w) (k : Below w.heap.size w w') : Below W.heap.size W w' := h.trans (k.mono h.size)
theorem u64_info : (Tryz.prog.info? 29).map (fun i => (i.zero, i.size, i.bytes)) = some (some (.int .u64 0), 1, 8) := by kernel_rfl
theorem eq_nil_1 (a : Addr) (n c : Nat) (w : World) : Sem.run Tryz.prog (binOp BinOp.eql 22 (Value.slice (some a) n c) (Value.slice none 0 0)) w = .ok (.bool false) w := by kernel_rfl
theorem tab8_at : ∀ j : Fin 256, bt tab8 (j.val : Int) = ((bl j.val : Nat) : Int) := by decide +kernel
theorem j1_ev (x a : Nat) (hx : x < 65536) (ha : a ≤ 48) : Ev (fun k => bits_Len64.j1 k (x : Int) (a : Int)) (((a + bl x : Nat) : Int)) := by
 have hb : bl x ≤ 16 := bl_le_of_lt (k := 16) hx
 by_cases c : 256 ≤ x
 ·have e1 : ((x : Int) / 256) % 256 = ((x / 256 : Nat) : Int) := by omega
  have ht := tab8_at ⟨x / 256, by omega⟩
  have hs := bl_shift x 8 (by show x / 256 ≠ 0; omega)
  have hs' : bl x = 8 + bl (x / 256) := hs
  refine Ev.step (f := fun _ => some (((a + bl x : Nat) : Int))) (fun k => ?_) (Ev.now _)
  rw [bits_Len64.j1, if_pos (by omega), e1, if_pos (by omega), if_pos (by omega)]
  have ht' : bt tab8 ((x / 256 : Nat) : Int) = ((bl (x / 256) : Nat) : Int) := ht
  rw [ht', hs', w64 (x := (a : Int) + 8) (by omega) (by omega), w64 (x := ((bl (x / 256) : Nat) : Int)) (by omega) (by omega), w64 (by omega) (by omega)]
  exact congrArg some (by omega)
 ·have e1 : (x : Int) % 256 = (x : Int) := by omega
  have ht : bt tab8 (x : Int) = ((bl x : Nat) : Int) := tab8_at ⟨x, by omega⟩
  refine Ev.step (f := fun _ => some (((a + bl x : Nat) : Int))) (fun k => ?_) (Ev.now _)
  rw [bits_Len64.j1, if_neg (by omega), e1, if_pos (by omega), if_pos (by omega), ht, w64 (x := ((bl x : Nat) : Int)) (by omega) (by omega), w64 (by omega) (by omega)]
  exact congrArg some (by omega)
theorem j0_ev (x a : Nat) (hx : x < 4294967296) (ha : a ≤ 32) : Ev (fun k => bits_Len64.j0 k (x : Int) (a : Int)) (((a + bl x : Nat) : Int)) := by
 by_cases c : 65536 ≤ x
 ·have hs : bl x = 16 + bl (x / 65536) := bl_shift x 16 (by show x / 65536 ≠ 0; omega)
  have h := j1_ev (x / 65536) (a + 16) (by omega) (by omega)
  refine Ev.step (f := fun k => bits_Len64.j1 k ((x / 65536 : Nat) : Int) ((a + 16 : Nat) : Int)) (fun k => ?_) ?_
  ·rw [bits_Len64.j0, if_pos (by omega), w64 (by omega) (by omega)]
   have e1 : (x : Int) / 65536 = ((x / 65536 : Nat) : Int) := by omega
   have e2 : (a : Int) + 16 = ((a + 16 : Nat) : Int) := by omega
   rw [e1, e2]
  ·rw [hs, show a + (16 + bl (x / 65536)) = a + 16 + bl (x / 65536) by omega]
   exact h
 ·refine Ev.step (f := fun k => bits_Len64.j1 k (x : Int) (a : Int)) (fun k => by rw [bits_Len64.j0, if_neg (by omega)]) (j1_ev x a (by omega) (by omega))
theorem len_ev (x : Nat) (hx : x < 18446744073709551616) : Ev (fun k => bits_Len64.f k (x : Int)) ((bl x : Nat) : Int) := by
 unfold bits_Len64.f
 by_cases c : 4294967296 ≤ x
 ·have hs : bl x = 32 + bl (x / 4294967296) := bl_shift x 32 (by show x / 4294967296 ≠ 0; omega)
  refine Ev.congr (fun k => if_pos (by omega)) ?_
  rw [hs]
  exact j0_ev (x / 4294967296) 32 (by omega) (by omega)
 ·refine Ev.congr (fun k => if_neg (by omega)) ?_
  have h := j0_ev x 0 (by omega) (by omega)
  rw [Nat.zero_add] at h
  exact h
end Go.Proofs.YtelfmddcjlocpaaGreatDoor.GBase
end
section
namespace Go.Proofs.YtelfmddcjlocpaaGreatDoor.GTab
open Go.RowKit
structure Tab (w : World) : Prop where mk :: (at' : ∀ j, j < 64 → w.cell? ⟨2, j, none⟩ = some (.int .u8 ((Lib.deBruijn64tab.getD j 0 : Nat) : Int)))
theorem Tab.next {w w' : World} (h : Tab w) (d : Below w.heap.size w w') : Tab w' := by
 have h0 : 2 < w.heap.size := World.block_lt_of_cell? _ _ (h.at' 0 (by decide))
 exact ⟨fun j hj => by rw [d.cell (p := ⟨2, j, none⟩) h0]; exact h.at' j hj⟩
set_option maxRecDepth 100000 in
theorem tz_core (x k idx : Nat) (w : World) (hx0 : ((x : Int) == 0) = false)
  (key : IntKind.u64.wrap (bits BinOp.and IntKind.u64 (x : Int) (IntKind.u64.wrap (-(x : Int))) * 285870213051353865) / 288230376151711744 = (idx : Int))
  (hi : idx < 64) (hk : k < 64) (hcell : w.cell? ⟨2, idx, none⟩ = some (.int .u8 k)) :
  Calls Tryz.prog 138 #[.int .u64 x] w fun e w' => e = .returned (.int .i64 k) ∧ w' = w := by
 go_enter Tryz.func138, Tryz.ntmps138
 go_wp2_with (simp only [key])
 go_ret
 exact ⟨rfl, rfl⟩
theorem tz_any (x : Nat) (hx : x < 18446744073709551616) (hx0 : x ≠ 0) (w : World) (hT : Tab w) :
  Calls Tryz.prog 138 #[.int .u64 x] w fun e w' => e = .returned (.int .i64 ((Lib.ctz 64 x : Nat) : Int)) ∧ w' = w := by
 obtain ⟨hlow, hk⟩ := Lib.lowest_bit 64 x hx0 hx
 obtain ⟨hi, htab⟩ := Lib.deBruijn64_at _ hk
 have hc := hT.at' _ hi
 rw [htab] at hc
 have key := tz64_key x _ hx hx0 hlow
 exact tz_core x _ _ w (by simpa using hx0) key hi hk hc
end Go.Proofs.YtelfmddcjlocpaaGreatDoor.GTab
end
section
namespace Go.Proofs.YtelfmddcjlocpaaGreatDoor.Row8
open Go.ChangeShapes Go.WideShapes Go.ChangeAt Go.RowKit Go.Deep Go.Proofs.YtelfmddcjlocpaaGreatDoorW.PrintWords Go.Proofs.YtelfmddcjlocpaaGreatDoor.GTab
set_option linter.unusedVariables false
theorem own : ownKnob Tryz.prog.godebug = none := by kernel_rfl
theorem laidOut : laidOutB Tryz.prog = true := by kernel_rfl
def tabs : List (String × DataW Unit) := [("math/bits.deBruijn64tab", Rows.laid_math_bits_deBruijn64tab)]
theorem door_met (os : Os) (args : Array Value) : laidMetH Tryz.prog tabs ((World.doorLaid Tryz.prog 14 os).forCall (fun _ _ => 0) ⟨#[], args, []⟩).memory :=
 laidMetH_of_parts3 (fuel := 8) (laidMet_of_run' 8 (by kernel_rfl) (by kernel_rfl)) (by kernel_rfl) (by kernel_rfl)
def zs : List Int := Lib.deBruijn64tab.map fun (n : Nat) => (n : Int)
theorem tab_data : (Rows.laid_math_bits_deBruijn64tab : DataW Unit) = Lib.tabData .u8 zs := by rfl
theorem zs_at : ∀ j, j < 64 → zs[j]? = some ((Lib.deBruijn64tab.getD j 0 : Nat) : Int) := by decide +kernel
theorem of_laid {W : World} (h : laidMetH Tryz.prog tabs W) : Tab W := by
 rw [MakeChecks.laidMetH_plain _ _ _ (by kernel_rfl)] at h
 unfold tabs at h
 rw [tab_data] at h
 have t := Lib.tabIs_of_head (g := 2) (t := 192) (e := 5) (n := 64) (by kernel_rfl) (by kernel_rfl) Tryz.underlying192 Tryz.underlying5 (by kernel_rfl) (by kernel_rfl) h
 unfold Lib.TabIs at t
 refine ⟨fun j hj => ?_⟩
 have := World.var?_cell (show Tryz.prog.globalNamed "math/bits.deBruijn64tab" = some 2 by kernel_rfl) t j
 rw [this]
 simp [zs_at j hj]
structure IsL (w : World) (A : Option Addr) (len cap : Nat) (l : List Int) : Prop where mk :: (c : Kd.C (Kd.int .u64) w A l.length l) (cap : l.length ≤ cap) (len : l.length = len) (wf : ∀ d ∈ l, 0 ≤ d ∧ d < 18446744073709551616)
section
variable {H : Type} {enc : TypeId × Value → H} {w : World} {base : Nat} {spare : Nat → Bool} {held : Bool}
theorem open_words {fuel : Nat} {cs : List Value} {x : DataW H × List MemPlace} (h : DataW.trod enc Tryz.prog w base spare held fuel 22 cs = some x) : ∃ A len cap l, cs = [.slice A len cap] ∧ IsL w A len cap l := by
 rcases open_ints Tryz.underlying22 Tryz.underlying29 (by kernel_rfl) h with ⟨rfl, _⟩ | ⟨a, len, cap, zs, rfl, _, hl, hm, hz, _, hcell, hw⟩
 ·exact ⟨none, 0, 0, [], rfl, ⟨rfl, by decide, fun h0 => absurd h0 (by decide)⟩, Nat.le_refl _, rfl, fun d hd => by cases hd⟩
 ·have hlz : len ≤ zs.length := by rw [hz]; split <;> omega
  have hlen : (zs.take len).length = len := by rw [List.length_take]; omega
  refine ⟨some a, len, cap, zs.take len, rfl, ?_, by omega, hlen, fun d hd => ?_⟩
  ·refine Kd.C_of_reads (d := 0) ⟨rfl, by unfold maxLen at hm; omega, fun _ => ⟨a, rfl, fun j hj => ?_⟩⟩
   rw [hlen] at hj
   have e : (zs.take len).getD j 0 = zs.getD j 0 := by
    rw [List.getD_eq_getElem?_getD, List.getD_eq_getElem?_getD, List.getElem?_take_of_lt hj]
   rw [e]
   exact hcell j (by omega)
  ·have := hw d (List.mem_of_mem_take hd)
   simp [Lit.wf] at this
   have e1 : IntKind.u64.min = 0 := rfl
   have e2 : IntKind.u64.max = 18446744073709551615 := rfl
   omega
set_option maxRecDepth 100000 in
theorem open_dy {fuel : Nat} {cs : List Value} {x : DataW H × List MemPlace} (h : DataW.trod enc Tryz.prog w base spare held fuel 26 cs = some x) :
  ∃ neg A len cap l e, cs = [.bool neg, .slice A len cap, .int .i64 e] ∧ IsL w A len cap l := by
 obtain ⟨xs, n, _, _, hc, hx, hf⟩ := DataW.trod_struct Tryz.underlying26 h
 have hc : cs.length = 3 := hc.trans (show Tryz.prog.cellsOf 26 = 3 by kernel_rfl)
 match cs, hc with
 | [c0, c1, c2], _ =>
  have f0 := hf 0 _ rfl
  have f1 := hf 1 _ rfl
  have hx2 : xs.length = 2 := hx
  match xs, hx2 with
  | [y0, y1], _ =>
   have f0 : DataW.trod enc Tryz.prog w base spare held n 24 [c0, c1] = some y0 := f0
   have f1 : DataW.trod enc Tryz.prog w base spare held n 3 [c2] = some y1 := f1
   obtain ⟨zs, n', _, _, _, hz, hg⟩ := DataW.trod_struct Tryz.underlying24 f0
   have hz2 : zs.length = 2 := hz
   match zs, hz2 with
   | [z0, z1], _ =>
    have g0 : DataW.trod enc Tryz.prog w base spare held n' 4 [c0] = some z0 := hg 0 _ rfl
    have g1 : DataW.trod enc Tryz.prog w base spare held n' 22 [c1] = some z1 := hg 1 _ rfl
    obtain ⟨b, e0, _⟩ := DataW.trod_bool Tryz.underlying4 g0
    obtain ⟨A, len, cap, l, e1, hl⟩ := open_words g1
    obtain ⟨e, e2, _, _⟩ := DataW.trod_int Tryz.underlying3 f1
    obtain rfl := List.head_eq_of_cons_eq e0
    obtain rfl := List.head_eq_of_cons_eq e1
    obtain rfl := List.head_eq_of_cons_eq e2
    exact ⟨b, A, len, cap, l, e, rfl, hl⟩
set_option maxRecDepth 100000 in
theorem arg_dy {r : Reach} {b0 : Nat} {v : Value} {d : DataW H} {p : List MemPlace} (hv : Value.okWide Tryz.prog w r b0 26 v) (h : DataW.Trod enc Tryz.prog w base spare held 26 v d p) :
  ∃ neg A len cap l e, v = .agg #[.bool neg, .slice A len cap, .int .i64 e] ∧ IsL w A len cap l := by
 obtain ⟨cs, rfl, hsz⟩ := okWide_struct Tryz.underlying26 hv
 obtain ⟨l⟩ := cs
 obtain ⟨fuel, hf⟩ := h
 have hf : DataW.trod enc Tryz.prog w base spare held fuel 26 l = some (d, p) := by simpa [Value.cells] using hf
 obtain ⟨neg, A, len, cap, m, e, rfl, hl⟩ := open_dy hf
 exact ⟨neg, A, len, cap, m, e, rfl, hl⟩
end
end Go.Proofs.YtelfmddcjlocpaaGreatDoor.Row8
end
section
set_option linter.unusedVariables false
set_option linter.unusedSimpArgs false
namespace Go.Proofs.YtelfmddcjlocpaaGreatDoor.Px
open Go Go.RowKit
inductive IC where
 | i (k : IntKind) (n : Int)
 | b (v : Bool)
 | sl (k : IntKind) (l : List Int)
inductive SC where
 | i (k : IntKind) (n : Int)
 | b (v : Bool)
 | fl (k : FloatKind) (n : Nat)
 | sl (k : IntKind) (l : List Int)
 | ep (k : IntKind) (n : Int)
 | lo (b off : Nat)
 | ifc (t : TypeId) (l : List IC)
 | un
 | top
def IC.sc : IC → SC
 | .i k n => .i k n
 | .b v => .b v
 | .sl k l => .sl k l
inductive P1 where
 | s (c : SC)
 | ag (l : List SC)
inductive PV where
 | s (c : SC)
 | ag (l : List SC)
 | tu (l : List P1)
inductive All2 {α β : Type} (R : α → β → Prop) : List α → List β → Prop where
 | nil : All2 R [] []
 | cons {a b l m} : R a b → All2 R l m → All2 R (a :: l) (b :: m)
def wr : IntKind → Int → Int
 | .i64, n => wrap64 n
 | k, n => k.wrap n
structure St where
 t : List PV
 m : List (Option (TypeId × List SC))
def St.gt (st : St) (i : Nat) : PV := st.t.getD i (.s .un)
def St.gm (st : St) (b : Nat) : Option (TypeId × List SC) := st.m.getD b none
def putM {α : Type} : List (Option α) → Nat → Option α → List (Option α)
 | [], 0, x => [x]
 | [], n + 1, x => none :: putM [] n x
 | _ :: l, 0, x => x :: l
 | y :: l, n + 1, x => y :: putM l n x
def St.put (st : St) (d : Option Nat) (v : PV) : St :=
 match d with
 | none => st
 | some d => { st with t := st.t.set d v }
def splice : List SC → Nat → List SC → List SC
 | l, 0, [] => l
 | _ :: t, 0, y :: l => y :: splice t 0 l
 | x :: t, n + 1, l => x :: splice t n l
 | [], _, _ => []
inductive E where
 | v (x : PV)
 | nb (b : Nat) (ty : TypeId) (l : List SC)
 | sto (b off : Nat) (l : List SC)
def app (d : Option Nat) (e : E) (st : St) : St :=
 match e with
 | .v x => st.put d x
 | .nb b ty l => ({ st with m := putM st.m b (some (ty, l)) } : St).put d (.s (.lo b 0))
 | .sto b off l =>
  match st.gm b with
  | some (ty, l0) => ({ st with m := putM st.m b (some (ty, splice l0 off l)) } : St).put d (.s .un)
  | none => st.put d (.s .un)
def ofC : Value → SC
 | .bool b => .b b
 | .int k n => .i k n
 | .float k n => .fl k n
 | .slice none 0 0 => .sl .u64 []
 | _ => .top
def ofV : Value → PV
 | .agg cs => .ag (cs.toList.map ofC)
 | v => .s (ofC v)
def St.ev (st : St) : Operand → PV
 | .tmp t => st.gt t
 | .const v => ofV v
 | _ => .s .top
def PV.cells : PV → List SC
 | .s c => [c]
 | .ag l => l
 | .tu _ => [.top]
def PV.one : PV → P1
 | .s c => .s c
 | .ag l => .ag l
 | .tu _ => .s .top
def P1.pv : P1 → PV
 | .s c => .s c
 | .ag l => .ag l
def SC.clo : SC → Bool
 | .lo _ _ | .ep _ _ | .top | .un => false
 | _ => true
def P1.clo : P1 → Bool
 | .s c => c.clo
 | .ag l => l.all SC.clo
def PV.clo : PV → Bool
 | .s c => c.clo
 | .ag l => l.all SC.clo
 | .tu l => l.all P1.clo
def SC.fit : SC → Bool
 | .top | .un => false
 | _ => true
def SlR (w : World) (T : Nat → Prop) (k : IntKind) (A : Option Addr) (l : List Int) : Prop :=
 l = [] ∨ ∃ b o, A = some ⟨b, o, none⟩ ∧ (¬ T b ∧ l.length ≤ 9223372036854775807) ∧ ∀ (j : Nat) (d : Int), l[j]? = some d → w.cell? ⟨b, o + j, none⟩ = some (.int k d)
def RepI (w : World) (T : Nat → Prop) : IC → Value → Prop
 | .i k n, v => v = .int k n
 | .b x, v => v = .bool x
 | .sl k l, v => ∃ A c, v = .slice A l.length c ∧ l.length ≤ c ∧ SlR w T k A l
def RepC (w : World) (T : Nat → Prop) (r : Nat → Option Nat) : SC → Value → Prop
 | .i k n, v => v = .int k n
 | .b x, v => v = .bool x
 | .fl k n, v => v = .float k n
 | .sl k l, v => ∃ A c, v = .slice A l.length c ∧ l.length ≤ c ∧ SlR w T k A l
 | .ep k n, v => ∃ b o, v = .pointer (some ⟨b, o, none⟩) ∧ ¬ T b ∧ w.cell? ⟨b, o, none⟩ = some (.int k n)
 | .lo i o, v => ∃ b, r i = some b ∧ v = .pointer (some ⟨b, o, none⟩)
 | .ifc t l, v => ∃ vs : List Value, v = .iface t (.agg vs.toArray) ∧ All2 (RepI w T) l vs
 | .un, v => v = undef
 | .top, _ => True
def RepP (w : World) (T : Nat → Prop) (r : Nat → Option Nat) : P1 → Value → Prop
 | .s c, v => RepC w T r c v
 | .ag l, v => ∃ vs : List Value, v = .agg vs.toArray ∧ All2 (RepC w T r) l vs
def RepV (w : World) (T : Nat → Prop) (r : Nat → Option Nat) : PV → Value → Prop
 | .s c, v => RepC w T r c v
 | .ag l, v => ∃ vs : List Value, v = .agg vs.toArray ∧ All2 (RepC w T r) l vs
 | .tu l, v => ∃ vs : List Value, v = .tuple vs.toArray ∧ All2 (RepP w T r) l vs
def none' : Nat → Option Nat := fun _ => none
def Sr (S : Nat → Prop) (r : Nat → Option Nat) (b : Nat) : Prop := S b ∨ ∃ i, r i = some b
def Con (P : Program) (G : World → Prop) (f : FuncId) (args : List PV) (R : PV → Prop) : Prop :=
 (∃ fn, P.funcs[f]? = some fn ∧ (fn.name == "runtime.NumGoroutine") = false ∧ fn.body.isNone = false) ∧
 ∀ (w : World) (S : Nat → Prop) (vs : List Value), G w → (∀ b, S b → b < w.heap.size) → All2 (RepV w S none') args vs →
  Calls P f vs.toArray w fun e w' => ∃ v x, e = .returned v ∧ R x ∧ RepV w' S none' x v ∧ Below w.heap.size w w'
def ExtC (P : Program) (f : FuncId) (args : List PV) (x : PV) : Prop :=
 ∀ (w : World) (T : Nat → Prop) (vs : List Value), All2 (RepV w T none') args vs → ∃ v, (callFunc f vs.toArray).run P w = .ok (.value v) w ∧ RepV w T none' x v
inductive Ans where
 | br (b : Bool)
 | r (v : PV)
 | x (v : PV)
 | cs (c : SC)
 | cut (n : Nat) (ks bs : List Nat) (fs : List (Nat × Nat))
def aggD : TypeDesc → Bool
 | .struct _ | .array _ _ => true
 | _ => false
def effLoad (P : Program) (st : St) (ty : TypeId) (a : PV) : Option E :=
 match P.info? ty, P.underlying ty with
 | some inf, some d =>
  match a with
  | .s (.lo b off) =>
   match st.gm b with
   | some (_, l) =>
    match aggD d with
    | true => bif Nat.ble (off + inf.size) l.length then some (.v (.ag ((l.drop off).take inf.size))) else none
    | false =>
     match l[off]? with
     | some c => some (.v (.s c))
     | none => none
   | none => none
  | .s (.ep k n) =>
   match aggD d with
   | true => none
   | false => some (.v (.s (.i k n)))
  | _ => none
 | _, _ => none
def effStore (P : Program) (st : St) (ty : TypeId) (a x : PV) : Option E :=
 match P.info? ty with
 | some inf =>
  match a with
  | .s (.lo b off) =>
   match st.gm b with
   | some (_, l) => bif (Nat.beq x.cells.length inf.size && Nat.ble (off + x.cells.length) l.length && x.cells.all SC.fit) then some (.sto b off x.cells) else none
   | none => none
  | _ => none
 | none => none
def effField (P : Program) (ty : TypeId) (x : PV) (f : Nat) : Option PV :=
 match P.underlying ty with
 | some (.struct fs) =>
  match fs[f]? with
  | some fd =>
   match P.info? fd.type, P.underlying fd.type with
   | some inf, some d =>
    match x with
    | .ag l =>
     match aggD d with
     | true => some (.ag ((l.drop fd.offset).take inf.size))
     | false =>
      match l[fd.offset]? with
      | some c => some (.s c)
      | none => none
    | _ => none
   | _, _ => none
  | none => none
 | _ => none
def effFieldAddr (P : Program) (ty : TypeId) (x : PV) (f : Nat) : Option PV :=
 match P.underlying ty with
 | some (.struct fs) =>
  match fs[f]? with
  | some fd =>
   match P.info? fd.type with
   | some inf =>
    match x with
    | .s (.lo b off) => bif Nat.beq inf.size 0 then none else some (.s (.lo b (off + fd.offset)))
    | _ => none
   | none => none
  | none => none
 | _ => none
end Go.Proofs.YtelfmddcjlocpaaGreatDoor.Px
end
