/- Lists of words and dyadics that lie inside what a row hands in: how they open, with the bound on their lengths. No condition beyond the rows' own. Px, first part: an abstract run of the model's code over plain values, with oracles for branches and for the callees' answers. Definitions alone. No condition. -/
import Derived.Test.YtelfmddcjlocpaaGreatDoorKRoundCellsRow8
import Derived.Orders
import Derived.Below
import Derived.KernelRfl
section
namespace Go.Proofs.YtelfmddcjlocpaaGreatDoor.RowW
open Go.ChangeShapes Go.WideShapes Go.ChangeAt Go.RowKit Go.Deep Go.Proofs.YtelfmddcjlocpaaGreatDoorW.PrintWords Go.Proofs.YtelfmddcjlocpaaGreatDoor.Row8
set_option linter.unusedVariables false
def Wt {H : Type} (t : TypeId) (d : DataW H) : Prop := ∀ n ∈ d.weights Tryz.prog t, n ≤ reachBytes
theorem Wt.of_each {H : Type} {ts : List TypeId} {ds : List (DataW H)} {j : Nat} {t : TypeId} {d : DataW H} (h : (DataW.weightsEach Tryz.prog ts ds).all (· ≤ reachBytes) = true) (ht : ts[j]? = some t) (hd : ds[j]? = some d) : Wt t d := fun n hn => by
 have := List.all_eq_true.1 h _ (DataW.weights_mem_each ht hd n hn)
 simpa using this
theorem Wt.part {H : Type} {t : TypeId} {fs : Array Field} {parts : List (DataW H)} (hu : Tryz.prog.underlying t = some (.struct fs)) (h : Wt t (.agg parts)) {j : Nat} {f : Field} {d : DataW H} (hf : fs[j]? = some f) (hd : parts[j]? = some d) : Wt f.type d := fun n hn => by
 refine h n ?_
 unfold DataW.weights
 rw [hu]
 refine DataW.weights_mem_each (j := j) ?_ hd n hn
 rw [List.getElem?_map, Array.getElem?_toList, hf]
 rfl
theorem mem_all {H : Type} {e : TypeId} : ∀ {l : List (DataW H)} {d : DataW H}, d ∈ l → ∀ n ∈ d.weights Tryz.prog e, n ∈ DataW.weightsAll Tryz.prog e l
 | a :: l, d, hd, n, hn => by
  unfold DataW.weightsAll
  rcases List.mem_cons.1 hd with rfl | hd
  ·exact List.mem_append_left _ hn
  ·exact List.mem_append_right _ (mem_all hd n hn)
theorem Wt.elem {H : Type} {t e : TypeId} {l s : List (DataW H)} (hu : Tryz.prog.underlying t = some (.slice e)) (h : Wt t (.slice l s)) {d : DataW H} (hd : d ∈ l) : Wt e d := fun n hn => by
 refine h n ?_
 unfold DataW.weights
 rw [hu]
 exact List.mem_cons_of_mem _ (List.mem_append_left _ (mem_all hd n hn))
theorem Wt.len {H : Type} {t e : TypeId} {l s : List (DataW H)} (hu : Tryz.prog.underlying t = some (.slice e)) (h : Wt t (.slice l s)) : (l.length + s.length) * Tryz.prog.bytesOf e ≤ reachBytes := by
 refine h _ ?_
 unfold DataW.weights
 rw [hu]
 exact List.mem_cons_self ..
section
variable {H : Type} {enc : TypeId × Value → H} {w : World} {base : Nat} {spare : Nat → Bool} {held : Bool}
theorem words_w {fuel : Nat} {cs : List Value} {x : DataW H × List MemPlace} (h : DataW.trod enc Tryz.prog w base spare held fuel 22 cs = some x) (hw : Wt 22 x.1) :
  ∃ A len cap l, cs = [.slice A len cap] ∧ IsL w A len cap l ∧ len ≤ 17592186044416 := by
 obtain ⟨A, len, cap, l, rfl, hl⟩ := open_words h
 refine ⟨A, len, cap, l, rfl, hl, ?_⟩
 rcases open_slice Tryz.underlying22 h with ⟨hcs, _⟩ | ⟨a, len', cap', m, n, D, Pl, hcs, _, hle, _, hm, rfl, hi⟩
 ·have e := List.head_eq_of_cons_eq hcs
  injection e with e1 e2 e3
  subst e2
  decide
 ·have e := List.head_eq_of_cons_eq hcs
  injection e with e1 e2 e3
  subst e2
  have z := hw.len Tryz.underlying22
  have hb : Tryz.prog.bytesOf 29 = 8 := by kernel_rfl
  have hr : reachBytes < 140737488355328 := by decide
  rw [hb, List.length_map, List.length_range] at z
  omega
set_option maxRecDepth 100000 in
theorem dy_w {fuel : Nat} {cs : List Value} {x : DataW H × List MemPlace} (h : DataW.trod enc Tryz.prog w base spare held fuel 26 cs = some x) (hw : Wt 26 x.1) :
  ∃ neg A len cap l e, cs = [.bool neg, .slice A len cap, .int .i64 e] ∧ IsL w A len cap l ∧ len ≤ 17592186044416 ∧ (Lit.int .i64 e).wf = true := by
 obtain ⟨xs, n, _, hy, hc, hx, hf⟩ := DataW.trod_struct Tryz.underlying26 h
 have hc : cs.length = 3 := hc.trans (show Tryz.prog.cellsOf 26 = 3 by kernel_rfl)
 match cs, hc with
 | [c0, c1, c2], _ =>
  have f0 := hf 0 _ rfl
  have f1 := hf 1 _ rfl
  have hx2 : xs.length = 2 := hx
  match xs, hx2 with
  | [y0, y1], _ =>
   have f0 : DataW.trod enc Tryz.prog w base spare held n 24 [c0, c1] = some y0 := f0
   have f1 : DataW.trod enc Tryz.prog w base spare held n 3 [c2] = some y1 := f1
   have hx1 : x.1 = .agg [y0.1, y1.1] := by rw [hy]; rfl
   rw [hx1] at hw
   have w0 : Wt 24 y0.1 := hw.part Tryz.underlying26 (j := 0) rfl rfl
   obtain ⟨zs, n', _, hy', _, hz, hg⟩ := DataW.trod_struct Tryz.underlying24 f0
   have hz2 : zs.length = 2 := hz
   match zs, hz2 with
   | [z0, z1], _ =>
    have hx3 : y0.1 = .agg [z0.1, z1.1] := by rw [hy']; rfl
    rw [hx3] at w0
    have w1 : Wt 22 z1.1 := w0.part Tryz.underlying24 (j := 1) rfl rfl
    have g0 : DataW.trod enc Tryz.prog w base spare held n' 4 [c0] = some z0 := hg 0 _ rfl
    have g1 : DataW.trod enc Tryz.prog w base spare held n' 22 [c1] = some z1 := hg 1 _ rfl
    obtain ⟨b, e0, _⟩ := DataW.trod_bool Tryz.underlying4 g0
    obtain ⟨A, len, cap, l, e1, hl, hn⟩ := words_w g1 w1
    obtain ⟨e, e2, _, we⟩ := DataW.trod_int Tryz.underlying3 f1
    obtain rfl := List.head_eq_of_cons_eq e0
    obtain rfl := List.head_eq_of_cons_eq e1
    obtain rfl := List.head_eq_of_cons_eq e2
    exact ⟨b, A, len, cap, l, e, rfl, hl, hn, we⟩
end
end Go.Proofs.YtelfmddcjlocpaaGreatDoor.RowW
end
section
set_option linter.unusedVariables false
set_option linter.unusedSimpArgs false
namespace Go.Proofs.YtelfmddcjlocpaaGreatDoor.Px
open Go Go.RowKit
inductive IC where
 | i (k : IntKind) (n : Int)
 | b (v : Bool)
 | sl (k : IntKind) (l : List Int)
inductive SC where
 | i (k : IntKind) (n : Int)
 | b (v : Bool)
 | fl (k : FloatKind) (n : Nat)
 | sl (k : IntKind) (l : List Int)
 | ep (k : IntKind) (n : Int)
 | lo (b off : Nat)
 | ifc (t : TypeId) (l : List IC)
 | un
 | top
def IC.sc : IC → SC
 | .i k n => .i k n
 | .b v => .b v
 | .sl k l => .sl k l
inductive P1 where
 | s (c : SC)
 | ag (l : List SC)
inductive PV where
 | s (c : SC)
 | ag (l : List SC)
 | tu (l : List P1)
inductive All2 {α β : Type} (R : α → β → Prop) : List α → List β → Prop where
 | nil : All2 R [] []
 | cons {a b l m} : R a b → All2 R l m → All2 R (a :: l) (b :: m)
def wr : IntKind → Int → Int
 | .i64, n => wrap64 n
 | k, n => k.wrap n
structure St where
 t : List PV
 m : List (Option (TypeId × List SC))
def St.gt (st : St) (i : Nat) : PV := st.t.getD i (.s .un)
def St.gm (st : St) (b : Nat) : Option (TypeId × List SC) := st.m.getD b none
def putM {α : Type} : List (Option α) → Nat → Option α → List (Option α)
 | [], 0, x => [x]
 | [], n + 1, x => none :: putM [] n x
 | _ :: l, 0, x => x :: l
 | y :: l, n + 1, x => y :: putM l n x
def St.put (st : St) (d : Option Nat) (v : PV) : St :=
 match d with
 | none => st
 | some d => { st with t := st.t.set d v }
def splice : List SC → Nat → List SC → List SC
 | l, 0, [] => l
 | _ :: t, 0, y :: l => y :: splice t 0 l
 | x :: t, n + 1, l => x :: splice t n l
 | [], _, _ => []
inductive E where
 | v (x : PV)
 | nb (b : Nat) (ty : TypeId) (l : List SC)
 | sto (b off : Nat) (l : List SC)
def app (d : Option Nat) (e : E) (st : St) : St :=
 match e with
 | .v x => st.put d x
 | .nb b ty l => ({ st with m := putM st.m b (some (ty, l)) } : St).put d (.s (.lo b 0))
 | .sto b off l =>
  match st.gm b with
  | some (ty, l0) => ({ st with m := putM st.m b (some (ty, splice l0 off l)) } : St).put d (.s .un)
  | none => st.put d (.s .un)
def ofC : Value → SC
 | .bool b => .b b
 | .int k n => .i k n
 | .float k n => .fl k n
 | .slice none 0 0 => .sl .u64 []
 | _ => .top
def ofV : Value → PV
 | .agg cs => .ag (cs.toList.map ofC)
 | v => .s (ofC v)
def St.ev (st : St) : Operand → PV
 | .tmp t => st.gt t
 | .const v => ofV v
 | _ => .s .top
def PV.cells : PV → List SC
 | .s c => [c]
 | .ag l => l
 | .tu _ => [.top]
def PV.one : PV → P1
 | .s c => .s c
 | .ag l => .ag l
 | .tu _ => .s .top
def P1.pv : P1 → PV
 | .s c => .s c
 | .ag l => .ag l
def SC.clo : SC → Bool
 | .lo _ _ | .ep _ _ | .top | .un => false
 | _ => true
def P1.clo : P1 → Bool
 | .s c => c.clo
 | .ag l => l.all SC.clo
def PV.clo : PV → Bool
 | .s c => c.clo
 | .ag l => l.all SC.clo
 | .tu l => l.all P1.clo
def SC.fit : SC → Bool
 | .top | .un => false
 | _ => true
def SlR (w : World) (T : Nat → Prop) (k : IntKind) (A : Option Addr) (l : List Int) : Prop :=
 l = [] ∨ ∃ b o, A = some ⟨b, o, none⟩ ∧ (¬ T b ∧ l.length ≤ 9223372036854775807) ∧ ∀ (j : Nat) (d : Int), l[j]? = some d → w.cell? ⟨b, o + j, none⟩ = some (.int k d)
def RepI (w : World) (T : Nat → Prop) : IC → Value → Prop
 | .i k n, v => v = .int k n
 | .b x, v => v = .bool x
 | .sl k l, v => ∃ A c, v = .slice A l.length c ∧ l.length ≤ c ∧ SlR w T k A l
def RepC (w : World) (T : Nat → Prop) (r : Nat → Option Nat) : SC → Value → Prop
 | .i k n, v => v = .int k n
 | .b x, v => v = .bool x
 | .fl k n, v => v = .float k n
 | .sl k l, v => ∃ A c, v = .slice A l.length c ∧ l.length ≤ c ∧ SlR w T k A l
 | .ep k n, v => ∃ b o, v = .pointer (some ⟨b, o, none⟩) ∧ ¬ T b ∧ w.cell? ⟨b, o, none⟩ = some (.int k n)
 | .lo i o, v => ∃ b, r i = some b ∧ v = .pointer (some ⟨b, o, none⟩)
 | .ifc t l, v => ∃ vs : List Value, v = .iface t (.agg vs.toArray) ∧ All2 (RepI w T) l vs
 | .un, v => v = undef
 | .top, _ => True
def RepP (w : World) (T : Nat → Prop) (r : Nat → Option Nat) : P1 → Value → Prop
 | .s c, v => RepC w T r c v
 | .ag l, v => ∃ vs : List Value, v = .agg vs.toArray ∧ All2 (RepC w T r) l vs
def RepV (w : World) (T : Nat → Prop) (r : Nat → Option Nat) : PV → Value → Prop
 | .s c, v => RepC w T r c v
 | .ag l, v => ∃ vs : List Value, v = .agg vs.toArray ∧ All2 (RepC w T r) l vs
 | .tu l, v => ∃ vs : List Value, v = .tuple vs.toArray ∧ All2 (RepP w T r) l vs
def none' : Nat → Option Nat := fun _ => none
def Sr (S : Nat → Prop) (r : Nat → Option Nat) (b : Nat) : Prop := S b ∨ ∃ i, r i = some b
def Con (P : Program) (G : World → Prop) (f : FuncId) (args : List PV) (R : PV → Prop) : Prop :=
 (∃ fn, P.funcs[f]? = some fn ∧ (fn.name == "runtime.NumGoroutine") = false ∧ fn.body.isNone = false) ∧
 ∀ (w : World) (S : Nat → Prop) (vs : List Value), G w → (∀ b, S b → b < w.heap.size) → All2 (RepV w S none') args vs →
  Calls P f vs.toArray w fun e w' => ∃ v x, e = .returned v ∧ R x ∧ RepV w' S none' x v ∧ Below w.heap.size w w'
def ExtC (P : Program) (f : FuncId) (args : List PV) (x : PV) : Prop :=
 ∀ (w : World) (T : Nat → Prop) (vs : List Value), All2 (RepV w T none') args vs → ∃ v, (callFunc f vs.toArray).run P w = .ok (.value v) w ∧ RepV w T none' x v
inductive Ans where
 | br (b : Bool)
 | r (v : PV)
 | x (v : PV)
 | cs (c : SC)
 | cut (n : Nat) (ks bs : List Nat) (fs : List (Nat × Nat))
def aggD : TypeDesc → Bool
 | .struct _ | .array _ _ => true
 | _ => false
def effLoad (P : Program) (st : St) (ty : TypeId) (a : PV) : Option E :=
 match P.info? ty, P.underlying ty with
 | some inf, some d =>
  match a with
  | .s (.lo b off) =>
   match st.gm b with
   | some (_, l) =>
    match aggD d with
    | true => bif Nat.ble (off + inf.size) l.length then some (.v (.ag ((l.drop off).take inf.size))) else none
    | false =>
     match l[off]? with
     | some c => some (.v (.s c))
     | none => none
   | none => none
  | .s (.ep k n) =>
   match aggD d with
   | true => none
   | false => some (.v (.s (.i k n)))
  | _ => none
 | _, _ => none
def effStore (P : Program) (st : St) (ty : TypeId) (a x : PV) : Option E :=
 match P.info? ty with
 | some inf =>
  match a with
  | .s (.lo b off) =>
   match st.gm b with
   | some (_, l) => bif (Nat.beq x.cells.length inf.size && Nat.ble (off + x.cells.length) l.length && x.cells.all SC.fit) then some (.sto b off x.cells) else none
   | none => none
  | _ => none
 | none => none
def effField (P : Program) (ty : TypeId) (x : PV) (f : Nat) : Option PV :=
 match P.underlying ty with
 | some (.struct fs) =>
  match fs[f]? with
  | some fd =>
   match P.info? fd.type, P.underlying fd.type with
   | some inf, some d =>
    match x with
    | .ag l =>
     match aggD d with
     | true => some (.ag ((l.drop fd.offset).take inf.size))
     | false =>
      match l[fd.offset]? with
      | some c => some (.s c)
      | none => none
    | _ => none
   | _, _ => none
  | none => none
 | _ => none
def effFieldAddr (P : Program) (ty : TypeId) (x : PV) (f : Nat) : Option PV :=
 match P.underlying ty with
 | some (.struct fs) =>
  match fs[f]? with
  | some fd =>
   match P.info? fd.type with
   | some inf =>
    match x with
    | .s (.lo b off) => bif Nat.beq inf.size 0 then none else some (.s (.lo b (off + fd.offset)))
    | _ => none
   | none => none
  | none => none
 | _ => none
end Go.Proofs.YtelfmddcjlocpaaGreatDoor.Px
end
