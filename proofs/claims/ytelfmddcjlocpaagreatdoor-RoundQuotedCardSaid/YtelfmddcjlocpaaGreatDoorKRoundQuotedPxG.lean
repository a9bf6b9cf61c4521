/- Px, seventh part: literals, new cells, calls; an operation with its guard. No condition. -/
import Derived.Test.YtelfmddcjlocpaaGreatDoorKRoundQuotedPxF
set_option linter.unusedVariables false
set_option linter.unusedSimpArgs false
namespace Go.Proofs.YtelfmddcjlocpaaGreatDoor.Px
open Go Go.RowKit Go.Proofs.YtelfmddcjlocpaaGreatDoorW.PrintWords Go.Proofs.YtelfmddcjlocpaaGreatDoorW.PrintMore
section
variable {P : Program} {W : World} {S : Nat → Prop} {r : Nat → Option Nat} {st : St} {a : Act} {w w' : World}
theorem run_zeroValue {t : TypeId} {inf : TypeInfo} {z : Value} (h : P.info? t = some inf) (hz : inf.zero = some z) (w : World) : (zeroValue t).run P w = .ok z w := by simp [zeroValue, run_typeInfo h, hz]
theorem all2_refl_ofC (w : World) (T : Nat → Prop) (r : Nat → Option Nat) : ∀ l : List Value, All2 (RepC w T r) (l.map ofC) l
 | [] => .nil
 | v :: l => .cons (repC_ofC w T r v) (all2_refl_ofC w T r l)
theorem setFold : ∀ (us : List Value) (vs : List Value) (off j : Nat), off + j + us.length ≤ vs.length →
  (us.zipIdx j).foldl (fun (cs : Array Value) (p : Value × Nat) => cs.setIfInBounds (off + p.2) p.1) vs.toArray = (spliceV vs (off + j) us).toArray
 | [], vs, off, j, _ => by rw [spliceV_nil]; rfl
 | u :: us, vs, off, j, h => by
  simp only [List.zipIdx_cons, List.foldl_cons, List.setIfInBounds_toArray]
  rw [setFold us (vs.set (off + j) u) off (j + 1) (by simp at h ⊢; omega)]
  rw [show off + (j + 1) = off + j + 1 by omega, spliceV_set _ _ _ _ (by simp at h; omega)]
theorem fill_ok {T : Nat → Prop} {fs : Array Field} {places : Nat → Option (Nat × Nat)} (hpl : ∀ i f inf, fs[i]? = some f → P.info? f.type = some inf → places i = some (f.offset, inf.size)) :
  ∀ (ps : List (Nat × PV)) (us : List (Nat × Value)) (l : List SC) (vs : List Value) (m : List SC), All2 (fun (p : Nat × PV) (u : Nat × Value) => p.1 = u.1 ∧ RepV w T r p.2 u.2) ps us → All2 (RepC w T r) l vs → fillL fs P ps l = some m →
   (ps.all fun p => p.2.cells.all SC.fit) = true → ∃ vs' : List Value, Instr.fill places vs.toArray us = some vs'.toArray ∧ All2 (RepC w T r) m vs'
 | [], us, l, vs, m, h, hl, he, _ => by
  cases h
  obtain rfl := Option.some.inj he
  exact ⟨vs, rfl, hl⟩
 | (i, x) :: ps, us, l, vs, m, h, hl, he, hf => by
  cases h with
  | @cons _ u _ us h1 h2 =>
  obtain ⟨j, u⟩ := u
  obtain ⟨rfl, hu⟩ := h1
  simp only [fillL] at he
  cases hfi : fs[i]? with
  | none => rw [hfi] at he; cases he
  | some f =>
  rw [hfi] at he
  dsimp only at he
  cases hi : P.info? f.type with
  | none => rw [hi] at he; cases he
  | some inf =>
  rw [hi] at he
  dsimp only at he
  cases hc : (Nat.beq x.cells.length inf.size && Nat.ble (f.offset + x.cells.length) l.length) with
  | false => rw [hc] at he; cases he
  | true =>
  rw [hc] at he
  rw [Bool.and_eq_true] at hc
  have c1 := Nat.eq_of_beq_eq_true hc.1
  have c2 := Nat.le_of_ble_eq_true hc.2
  rw [List.all_cons, Bool.and_eq_true] at hf
  have hcs := rep_cells hu hf.1
  have hlen := hcs.len
  obtain ⟨vs', e1, e2⟩ := fill_ok hpl ps us (splice l f.offset x.cells) (spliceV vs f.offset u.cells.toList) m h2 (hl.splice _ hcs) he hf.2
  refine ⟨vs', ?_, e2⟩
  have hsz : u.cells.size = inf.size := by rw [← c1, hlen]; simp
  have hb : ¬ (f.offset + u.cells.size > vs.toArray.size) := by
   have := hl.len
   simp
   rw [← this]; omega
  unfold Instr.fill
  rw [hpl i f inf hfi hi]
  simp only [hsz, ne_eq, not_true_eq_false, decide_false, Bool.false_or]
  rw [hsz] at hb
  rw [if_neg (fun h => hb (of_decide_eq_true h))]
  have hfo := setFold u.cells.toList vs f.offset 0 (by rw [← hlen, ← hl.len]; omega)
  rw [Nat.add_zero] at hfo
  have hzz : u.cells.zipIdx.foldl (fun (cs : Array Value) (p : Value × Nat) => cs.setIfInBounds (f.offset + p.2) p.1) vs.toArray = (spliceV vs f.offset u.cells.toList).toArray := by
   rw [← hfo, ← Array.foldl_toList]
   simp
  rw [hzz]
  exact e1
theorem run_mapL {α β : Type} {f : α → Sem β} {g : α → β} : ∀ (l : List α) (w : World), (∀ x ∈ l, ∀ w, (f x).run P w = .ok (g x) w) → (l.mapM f).run P w = .ok (l.map g) w
 | [], w, _ => by simp
 | x :: l, w, h => by
  rw [List.mapM_cons]
  simp only [Sem.run_bind, h x (List.mem_cons_self ..) w, Result.andThen_ok, run_mapL l w (fun y hy => h y (List.mem_cons_of_mem _ hy)), Sem.run_pure, List.map_cons]
theorem run_mapA {α β : Type} {f : α → Sem β} {g : α → β} (l : Array α) (w : World) (h : ∀ x ∈ l.toList, ∀ w, (f x).run P w = .ok (g x) w) : (l.mapM f).run P w = .ok (l.map g) w := by
 obtain ⟨l⟩ := l
 rw [List.mapM_toArray, Sem.run_map, run_mapL l w h]
 simp
theorem eff_build {t : TypeId} {ps : List (Nat × PV)} {us : List (Nat × Value)} {z : PV} {T : Nat → Prop} (hx : All2 (fun (p : Nat × PV) (u : Nat × Value) => p.1 = u.1 ∧ RepV w T r p.2 u.2) ps us) (he : effBuild P t ps = some z) :
  ∃ q, (Instr.build t us.toArray).run P w = .ok q w ∧ RepV w T r z q := by
 unfold effBuild at he
 split at he
 ·rename_i inf fs hi hu
  split at he
  ·rename_i cs hz
   split at he
   ·rename_i hall
    split at he
    ·rename_i l hl
     obtain rfl := Option.some.inj he
     rw [Bool.and_eq_true, List.all_eq_true] at hall
     have hm : (fs.mapM fun f => (do pure (f.offset, ← sizeOf f.type) : Sem (Nat × Nat))).run P w = .ok (fs.map fun f => (f.offset, P.cellsOf f.type)) w := by
      refine run_mapA fs w fun f hf w => ?_
      have := hall.1 f hf
      obtain ⟨i2, h2⟩ := Option.isSome_iff_exists.1 this
      have hc : P.cellsOf f.type = i2.size := by unfold Program.cellsOf; rw [h2]; rfl
      simp [run_sizeOf h2, hc]
     obtain ⟨vs', e1, e2⟩ := fill_ok (P := P) (w := w) (r := r) (T := T) (fs := fs) (places := ((fs.map fun f => (f.offset, P.cellsOf f.type))[·]?)) (fun i f i2 hf h2 => by
      have hc : P.cellsOf f.type = i2.size := by unfold Program.cellsOf; rw [h2]; rfl
      rw [Array.getElem?_map, hf]; simp [hc]) ps us (cs.toList.map ofC) cs.toList l hx (all2_refl_ofC w T r _) hl hall.2
     refine ⟨.agg vs'.toArray, ?_, vs', rfl, e2⟩
     simp only [Instr.build, Sem.run_bind, run_zeroValue hi hz, Result.andThen_ok, run_underlying hu, hm, Value.cells]
     rw [show cs.toList.toArray = cs by simp] at e1
     rw [e1]
     rfl
    ·cases he
   ·cases he
  ·cases he
 ·cases he
def enumV (k : IntKind) : Nat → List Int → List (Nat × Value)
 | _, [] => []
 | j, n :: l => (j, .int k n) :: enumV k (j + 1) l
theorem ints_enum {T : Nat → Prop} (k : IntKind) : ∀ (ps : List (Nat × PV)) (us : List (Nat × Value)) (l : List Int) (j : Nat), All2 (fun (p : Nat × PV) (u : Nat × Value) => p.1 = u.1 ∧ RepV w T r p.2 u.2) ps us →
  intsOf k ps j = some l → us = enumV k j l ∧ l.length = ps.length
 | [], us, l, j, h, he => by
  cases h
  obtain rfl := Option.some.inj he
  exact ⟨rfl, rfl⟩
 | (i, x) :: ps, us, l, j, h, he => by
  cases h with
  | @cons _ u _ us h1 h2 =>
  obtain ⟨j2, u⟩ := u
  obtain ⟨e0, hu⟩ := h1
  dsimp only at e0 hu
  subst e0
  cases x with
  | ag l => cases he
  | tu l => cases he
  | s c =>
  cases c with
  | i k' n =>
   simp only [intsOf] at he
   cases hc : (Nat.beq i j && decide (k = k')) with
   | false => rw [hc] at he; cases he
   | true =>
   rw [hc] at he
   rw [Bool.and_eq_true] at hc
   have c1 : i = j := Nat.eq_of_beq_eq_true hc.1
   have c2 : k = k' := of_decide_eq_true hc.2
   subst c1; subst c2
   dsimp only [cond] at he
   cases hl : intsOf k ps (i + 1) with
   | none => rw [hl] at he; cases he
   | some l' =>
   rw [hl] at he
   obtain rfl := Option.some.inj he
   obtain rfl : u = .int k n := hu
   obtain ⟨e1, e2⟩ := ints_enum k ps us l' (i + 1) h2 hl
   exact ⟨by rw [e1]; rfl, by simp [e2]⟩
  | _ => cases he
theorem fill_enum (k : IntKind) : ∀ (l : List Int) (pre rest : List Value), rest.length = l.length → Instr.fill (fun i => some (i * 1, 1)) (pre ++ rest).toArray (enumV k pre.length l) = some (pre ++ l.map (Value.int k)).toArray
 | [], pre, rest, h => by
  have : rest = [] := List.eq_nil_of_length_eq_zero h
  subst this
  rfl
 | n :: l, pre, rest, h => by
  cases rest with
  | nil => simp at h
  | cons y rest =>
  have hrec := fill_enum k l (pre ++ [.int k n]) rest (by simpa using h)
  unfold enumV Instr.fill
  simp only [Nat.mul_one, Value.cells]
  rw [if_neg (by simp)]
  have e : ((#[Value.int k n] : Array Value).zipIdx.foldl (fun (cs : Array Value) (p : Value × Nat) => cs.setIfInBounds (pre.length + p.2) p.1) (pre ++ y :: rest).toArray) = ((pre ++ [Value.int k n]) ++ rest).toArray := by
   rw [← Array.foldl_toList]
   simp
  rw [e]
  simp only [List.length_append, List.length_cons, List.length_nil, Nat.zero_add, Nat.mul_one] at hrec
  rw [hrec]
  simp
theorem eff_buildSlice {t : TypeId} {len : Nat} {ps : List (Nat × PV)} {us : List (Nat × Value)} {z : PV} {T : Nat → Prop} (hT : ∀ b, T b → b < w.heap.size) (hx : All2 (fun (p : Nat × PV) (u : Nat × Value) => p.1 = u.1 ∧ RepV w T r p.2 u.2) ps us) (he : effBuildSlice P t len ps = some z) :
  ∃ q w', (Instr.buildSlice t len us.toArray).run P w = .ok q w' ∧ Below w.heap.size w w' ∧ RepV w' T r z q := by
 unfold effBuildSlice at he
 split at he
 ·rename_i el hu
  split at he
  ·rename_i inf k hi hk
   split at he
   ·rename_i kz nz hz hc
    split at he
    ·rename_i l hl
     obtain rfl := Option.some.inj he
     rw [Bool.and_eq_true, Bool.and_eq_true] at hc
     obtain ⟨⟨c1, c2⟩, c3⟩ := hc
     have c1 := Nat.eq_of_beq_eq_true c1
     have c2 := Nat.le_of_ble_eq_true c2
     have c3 := Nat.eq_of_beq_eq_true c3
     obtain ⟨e1, e2⟩ := ints_enum k ps us l 0 hx hl
     subst e1
     have hlen : l.length = len := by omega
     refine ⟨.slice (some ⟨w.heap.size, 0, none⟩) len len, w.alloc (.cells (l.map (Value.int k)).toArray el (0, 0)), ?_, (Below.refl _ _).alloc (Nat.le_refl _) _, some ⟨w.heap.size, 0, none⟩, len, by rw [hlen], by omega, ?_⟩
     ·have hf := fill_enum k l [] ((Array.range (len * 1)).map fun _ => (Value.int kz nz)).toList (by simp [hlen])
      have hlim : ¬ (len * inf.size > 2 ^ 24) := by rw [c1]; omega
      simp only [Instr.buildSlice, Sem.run_bind, run_underlying hu, Result.andThen_ok, run_sizeOf hi, if_neg hlim]
      by_cases h0 : len = 0
      ·have hl0 : l = [] := List.eq_nil_of_length_eq_zero (by omega)
       subst hl0
       subst h0
       rw [if_pos (by simp)]
       have e0 : (Array.range 0) = #[] := Array.toList_inj.1 (by simp)
       simp [enumV, Instr.fill, newRow, e0]
      ·have hcells : ((Array.range (len * 1)).map fun i => (#[Value.int kz nz] : Array Value)[i % (#[Value.int kz nz] : Array Value).size]!) = ([] ++ ((Array.range (len * 1)).map fun _ => (Value.int kz nz)).toList).toArray := by
        apply Array.toList_inj.1
        simp [Nat.mod_one]
       rw [if_neg (by rw [c1]; simpa using h0)]
       simp only [Sem.run_bind, run_zeroValue hi hz, Result.andThen_ok, Value.cells, Sem.run_pure, c1]
       rw [hcells, show enumV k 0 l = enumV k ([] : List Value).length l from rfl, hf]
       simp [newRow]
     ·cases l with
      | nil => exact .inl rfl
      | cons n l =>
       refine .inr ⟨w.heap.size, 0, rfl, ⟨fun h => absurd (hT _ h) (Nat.lt_irrefl _), by omega⟩, fun j d hj => ?_⟩
       have hh : (w.alloc (.cells ((n :: l).map (Value.int k)).toArray el (0, 0))).heap[w.heap.size]? = some (.cells ((n :: l).map (Value.int k)).toArray el (0, 0)) := by
        show (w.heap.push _)[w.heap.size]? = _
        simp
       rw [cell_row hh, List.getElem?_map, Nat.zero_add, hj]
       rfl
    ·cases he
   ·cases he
  ·cases he
 ·cases he
theorem zero_of {t : TypeId} {l : List SC} (h : zeroOf P t = some l) : ∃ z, (zeroValue t).run P w = .ok z w ∧ ∀ T, All2 (RepC w T r) l z.cells.toList := by
 unfold zeroOf at h
 split at h
 ·rename_i inf hi
  split at h
  ·rename_i cs hz
   obtain rfl := Option.some.inj h
   exact ⟨_, run_zeroValue hi hz w, fun T => all2_refl_ofC w T r _⟩
  ·rename_i k n hz
   obtain rfl := Option.some.inj h
   exact ⟨_, run_zeroValue hi hz w, fun T => .cons rfl .nil⟩
  ·rename_i x hz
   obtain rfl := Option.some.inj h
   exact ⟨_, run_zeroValue hi hz w, fun T => .cons rfl .nil⟩
  ·rename_i k n hz
   obtain rfl := Option.some.inj h
   exact ⟨_, run_zeroValue hi hz w, fun T => .cons rfl .nil⟩
  ·rename_i hz
   obtain rfl := Option.some.inj h
   exact ⟨_, run_zeroValue hi hz w, fun T => .cons ⟨none, 0, rfl, Nat.le_refl _, .inl rfl⟩ .nil⟩
  ·cases h
 ·cases h
theorem run_isIface {t : TypeId} {d : TypeDesc} (h : P.underlying t = some d) (hd : ifaceD d = false) (v : Value) (w : World) : (Instr.makeInterface t v).run P w = .ok (.iface t v) w := by
 simp only [Instr.makeInterface, Sem.run_bind, run_underlying h, Result.andThen_ok]
 cases d <;> first | rfl | cases hd
theorem eff_makeI {t : TypeId} {x z : PV} {v : Value} {T : Nat → Prop} (hx : RepV w T r x v) (he : effMakeI P t x = some z) : ∃ q, (Instr.makeInterface t v).run P w = .ok q w ∧ RepV w T r z q := by
 unfold effMakeI at he
 split at he
 ·rename_i d hu
  split at he
  ·rename_i l hd
   split at he
   ·rename_i m hm
    obtain rfl := Option.some.inj he
    obtain ⟨vs, rfl, h2⟩ := hx
    exact ⟨_, run_isIface hu hd _ w, vs, rfl, toIC_ok hm h2⟩
   ·cases he
  ·cases he
 ·cases he
theorem zeroAg_ok {t : TypeId} {z : List SC} (h : zeroAg P t = some z) : ∃ u, (zeroValue t).run P w = .ok u w ∧ ∀ T, RepP w T r (.ag z) u := by
 unfold zeroAg at h
 split at h
 ·rename_i inf hi
  split at h
  ·rename_i cs hz
   obtain rfl := Option.some.inj h
   exact ⟨_, run_zeroValue hi hz w, fun T => ⟨cs.toList, by simp, all2_refl_ofC w T r _⟩⟩
  ·cases h
 ·cases h
theorem eff_assert {x z : PV} {v : Value} {t xt : TypeId} {ok : Bool} {T : Nat → Prop} (hx : RepV w T r x v) (he : effAssert P x t ok = some z) : ∃ q, (Instr.typeAssert v xt t ok).run P w = .ok q w ∧ RepV w T r z q := by
 unfold effAssert at he
 split at he
 ·rename_i d hu
  split at he
  ·rename_i t' l hd
   obtain ⟨vs, rfl, h2⟩ := hx
   have hl : All2 (RepC w T r) (l.map IC.sc) vs := h2.map_l fun _ _ _ h => icsc h
   have hrun : (Instr.typeAssert (.iface t' (.agg vs.toArray)) xt t ok).run P w = (if t' = t then (pure (if ok then .tuple #[.agg vs.toArray, .bool true] else .agg vs.toArray) : Sem Value) else (do if ok then pure (.tuple #[← zeroValue t, .bool false]) else runtimePanic (.typeAssertion (some xt) (some t') t ""))).run P w := by
    simp only [Instr.typeAssert, Sem.run_bind, run_underlying hu, Result.andThen_ok]
    cases d <;> first | (cases hd; done) | rfl
   split at he
   ·rename_i ht
    obtain rfl := Option.some.inj he
    rw [if_pos (of_decide_eq_true ht)] at hrun
    exact ⟨_, hrun, [_, _], rfl, .cons ⟨vs, rfl, hl⟩ (.cons rfl .nil)⟩
   ·rename_i ht
    obtain rfl := Option.some.inj he
    rw [if_pos (of_decide_eq_true ht)] at hrun
    exact ⟨_, hrun, vs, rfl, hl⟩
   ·rename_i ht
    split at he
    ·rename_i zz hz
     obtain rfl := Option.some.inj he
     rw [if_neg (of_decide_eq_false ht)] at hrun
     obtain ⟨u, h3, h4⟩ := zeroAg_ok (w := w) (r := r) hz
     refine ⟨.tuple #[u, .bool false], ?_, [_, _], rfl, .cons (h4 T) (.cons rfl .nil)⟩
     rw [hrun]
     simp [h3]
    ·cases he
   ·cases he
  ·cases he
 ·cases he
theorem run_method {t : TypeId} {name : String} {f : FuncId} (h : methOf P t name = some f) (v : Value) (n : Nat) (w : World) : (method (n + 1) t v name).run P w = .ok (f, v) w := by
 unfold methOf at h
 split at h
 ·rename_i inf fs hi hu
  split at h
  ·rename_i m hm
   split at h
   ·rename_i g hp hf
    obtain rfl := Option.some.inj h
    simp only [method, Sem.run_bind, run_typeInfo hi, Result.andThen_ok, hm, hp, follow, Sem.run_pure, hf, receiverAt, run_underlying hu, Place.get]
   ·cases h
  ·cases h
 ·cases h
theorem wp_new (h : Rp W S r st a w) (hS : ∀ b, S b → b < W.heap.size) {o : Oper} {n : Nat} (hn : st.gm n = none) {ty : TypeId} {l : List SC} {cs : Array Value} {Q : Exit → Act → World → Prop} (hl : All2 (RepC w (Sr S r) r) l cs.toList)
  (he : (execOp a.eval o).run P w = .ok (.value (.pointer (some ⟨w.heap.size, 0, none⟩))) (w.alloc (.cells cs ty (0, 0)))) : o.wp P a w (Nxt W S r (app o.dst (.nb n ty l) st)) Q := by
 unfold Oper.wp
 rw [he, Oper.upon_value]
 obtain ⟨r', h1, h2, h3⟩ := h.new hS hn (ty := ty) hl
 rw [show cs.toList.toArray = cs by simp] at h3
 exact ⟨r', h1, h3.put o.dst (x := .s (.lo n 0)) ⟨_, h2, rfl⟩⟩
theorem Rp.heap_lt (h : Rp W S r st a w) (hS : ∀ b, S b → b < W.heap.size) : ∀ b, Sr S r b → b < w.heap.size := by
 intro b hb
 rcases hb with hb | ⟨i, hi⟩
 ·exact Nat.lt_of_lt_of_le (hS b hb) h.below.size
 ·obtain ⟨_, _, _, _, _, h3, _⟩ := h.dom i b hi
  exact lt_of_heap h3
theorem rep_evs (h : Rp W S r st a w) (l : List Operand) : All2 (RepV w (Sr S r) r) (l.map st.ev) (l.map a.eval) := All2.map fun x _ => rep_ev h x
theorem rep_parts (h : Rp W S r st a w) (l : List (Nat × Operand)) : All2 (fun (p : Nat × PV) (u : Nat × Value) => p.1 = u.1 ∧ RepV w (Sr S r) r p.2 u.2) (l.map fun p => (p.1, st.ev p.2)) (l.map fun p => (p.1, a.eval p.2)) := All2.map fun x _ => ⟨rfl, rep_ev h x.2⟩
theorem rep_evc (h : Rp W S r st a w) {x : Operand} {an an' : List Ans} {y : PV} {q : Prop} (he : st.evc x an = (y, q, an')) (hq : q) : RepV w (Sr S r) r y (a.eval x) := by
 have hv := rep_ev h x
 unfold St.evc at he
 split at he
 ·simp only [Prod.mk.injEq] at he
  obtain ⟨rfl, rfl, _⟩ := he
  rw [hq] at hv
  exact hv
 ·simp only [Prod.mk.injEq] at he
  obtain ⟨rfl, rfl, _⟩ := he
  exact hv
theorem run_callFunc {f : FuncId} {fn : Func} (h1 : P.funcs[f]? = some fn) (h2 : (fn.name == "runtime.NumGoroutine") = false) (h3 : fn.body.isNone = false) (args : Array Value) : (callFunc f args).run P w = .ok (.enter f args) w := by
 unfold callFunc
 simp only [Sem.run_bind, run_program, Result.andThen_ok, h1, h2, h3, Bool.false_eq_true, if_false]
 rfl
set_option maxHeartbeats 1000000 in
theorem eff_sound {G : World → Prop} (hG : ∀ w w', G w → Below w.heap.size w w' → G w') (gW : G W) (hS : ∀ b, S b → b < W.heap.size) (h : Rp W S r st a w) {o : Oper} {fr : Nat} {an an' : List Ans} {e : E} {ps : List Prop}
  (he : eff P G o.op fr st an = some (e, ps, an')) (hp : allP ps) (hn : fr ∈ opNew fr o.op → st.gm fr = none) (Q : Exit → Act → World → Prop) : o.wp P a w (Nxt W S r (app o.dst e st)) Q := by
 obtain ⟨dst, op, ty0, pos, after, guard⟩ := o
 cases op
 case move x =>
  simp only [eff, Option.some.injEq, Prod.mk.injEq] at he
  obtain ⟨rfl, _, _⟩ := he
  exact wp_pure h rfl (rep_ev h x)
 case assign x =>
  simp only [eff, Option.some.injEq, Prod.mk.injEq] at he
  obtain ⟨rfl, _, _⟩ := he
  exact wp_pure h rfl (rep_ev h x)
 case pick c x y =>
  simp only [eff, effPick] at he
  split at he
  ·rename_i t b an1 hc
   simp only [Option.some.injEq, Prod.mk.injEq] at he
   obtain ⟨rfl, rfl, _⟩ := he
   have hb : t = b := hp.1
   subst hb
   have hv := rep_ev h c
   rw [hc] at hv
   have hv : a.eval c = .bool t := hv
   refine wp_pure h (v := if t = true then a.eval x else a.eval y) ?_ ?_
   ·simp [execOp, hv, asBool]
   ·cases t
    ·exact rep_ev h y
    ·exact rep_ev h x
  ·cases he
 case alloc ty =>
  simp only [eff] at he
  split at he
  ·rename_i l hl
   simp only [Option.some.injEq, Prod.mk.injEq] at he
   obtain ⟨rfl, _, _⟩ := he
   obtain ⟨z, h1, h2⟩ := zero_of (w := w) (r := r) hl
   refine wp_new h hS (hn (List.mem_singleton.2 rfl)) (h2 _) (o := ⟨dst, _, ty0, pos, after, guard⟩) ?_
   simp [execOp, Instr.alloc, h1, newVar, newRow]
  ·cases he
 case box ty x =>
  simp only [eff] at he
  split at he
  ·rename_i hf
   simp only [Option.some.injEq, Prod.mk.injEq] at he
   obtain ⟨rfl, _, _⟩ := he
   refine wp_new h hS (hn (List.mem_singleton.2 rfl)) (rep_cells (rep_ev h x) hf) (o := ⟨dst, _, ty0, pos, after, guard⟩) ?_
   simp [execOp, Instr.box, newVar, newRow]
  ·cases he
 case build ty parts =>
  simp only [eff] at he
  split at he
  ·rename_i v hv
   simp only [Option.some.injEq, Prod.mk.injEq] at he
   obtain ⟨rfl, _, _⟩ := he
   obtain ⟨q, h1, h2⟩ := eff_build (w := w) (rep_parts h parts.toList) hv
   refine wp_pure h (v := q) ?_ h2
   have e : (parts.toList.map fun p => (p.1, a.eval p.2)).toArray = parts.map fun p => (p.1, a.eval p.2) := Array.toList_inj.1 (by simp)
   rw [e] at h1
   simp only [execOp, Sem.run_bind]
   erw [h1]
   rfl
  ·cases he
 case buildSlice ty len parts =>
  simp only [eff] at he
  split at he
  ·rename_i v hv
   simp only [Option.some.injEq, Prod.mk.injEq] at he
   obtain ⟨rfl, _, _⟩ := he
   obtain ⟨q, w', h1, hb, h2⟩ := eff_buildSlice (w := w) (h.heap_lt hS) (rep_parts h parts.toList) hv
   refine wp_val h (v := q) ?_ hb h2
   have e : (parts.toList.map fun p => (p.1, a.eval p.2)).toArray = parts.map fun p => (p.1, a.eval p.2) := Array.toList_inj.1 (by simp)
   rw [e] at h1
   simp only [execOp, Sem.run_bind]
   erw [h1]
   rfl
  ·cases he
 case load ty x =>
  simp only [eff] at he
  split at he
  ·rename_i e1 hv
   simp only [Option.some.injEq, Prod.mk.injEq] at he
   obtain ⟨rfl, _, _⟩ := he
   obtain ⟨y, u, rfl, h1, h2⟩ := eff_load h (rep_ev h x) hv
   exact wp_pure h (v := u) (by simp only [execOp, Sem.run_bind, h1]; rfl) h2
  ·cases he
 case store ty x y =>
  simp only [eff] at he
  split at he
  ·rename_i e1 hv
   simp only [Option.some.injEq, Prod.mk.injEq] at he
   obtain ⟨rfl, _, _⟩ := he
   obtain ⟨w', h1, h2⟩ := eff_store h (rep_ev h x) (rep_ev h y) hv dst
   unfold Oper.wp
   rw [show (execOp a.eval ⟨dst, .store ty x y, ty0, pos, after, guard⟩).run P w = .ok .skip w' by simp only [execOp, Sem.run_bind, h1]; rfl, Oper.upon_skip]
   exact h2
  ·cases he
 case nilCheck x =>
  simp only [eff, effCheck] at he
  have hv := rep_ev h x
  cases hx : st.ev x with
  | ag l => rw [hx] at he; cases he
  | tu l => rw [hx] at he; cases he
  | s c =>
   rw [hx] at he hv
   cases c with
   | lo b off =>
    simp only [Option.some.injEq, Prod.mk.injEq] at he
    obtain ⟨rfl, _, _⟩ := he
    obtain ⟨b', hb, hv⟩ := hv
    exact wp_pure h (v := .pointer (some ⟨b', off, none⟩)) (by simp [execOp, hv]) ⟨b', hb, rfl⟩
   | ep k n =>
    simp only [Option.some.injEq, Prod.mk.injEq] at he
    obtain ⟨rfl, _, _⟩ := he
    obtain ⟨b', o', hv, hr⟩ := hv
    exact wp_pure h (v := .pointer (some ⟨b', o', none⟩)) (by simp [execOp, hv]) ⟨b', o', rfl, hr⟩
   | _ => cases he
 case binOp bop ty x y yt =>
  simp only [eff] at he
  split at he
  ·rename_i v ps' an1 hv
   simp only [Option.some.injEq, Prod.mk.injEq] at he
   obtain ⟨rfl, rfl, _⟩ := he
   obtain ⟨q, h1, h2⟩ := eff_bin (w := w) (rep_ev h x) (rep_ev h y) hv hp x y
   refine wp_pure h (v := q) ?_ h2
   simp only [execOp, Sem.run_bind] at h1 ⊢
   rw [h1]
   rfl
  ·cases he
 case unOp uop ty x =>
  simp only [eff] at he
  split at he
  ·rename_i v hv
   simp only [Option.some.injEq, Prod.mk.injEq] at he
   obtain ⟨rfl, _, _⟩ := he
   obtain ⟨q, h1, h2⟩ := eff_un (P := P) (w := w) (rep_ev h x) hv
   exact wp_pure h (v := q) (by simp only [execOp, Sem.run_bind, h1]; rfl) h2
  ·cases he
 case convert s d x =>
  simp only [eff] at he
  split at he
  ·rename_i v hv
   simp only [Option.some.injEq, Prod.mk.injEq] at he
   obtain ⟨rfl, _, _⟩ := he
   obtain ⟨q, h1, h2⟩ := eff_conv (w := w) (rep_ev h x) hv
   exact wp_pure h (v := q) (by simp only [execOp, Sem.run_bind, h1]; rfl) h2
  ·cases he
 case fieldAddr ty x f =>
  simp only [eff] at he
  split at he
  ·rename_i v hv
   simp only [Option.some.injEq, Prod.mk.injEq] at he
   obtain ⟨rfl, _, _⟩ := he
   obtain ⟨q, h1, h2⟩ := eff_fieldAddr (w := w) (rep_ev h x) hv
   exact wp_pure h (v := q) (by simp only [execOp, Sem.run_bind, h1]; rfl) h2
  ·cases he
 case field ty x f =>
  simp only [eff] at he
  split at he
  ·rename_i v hv
   simp only [Option.some.injEq, Prod.mk.injEq] at he
   obtain ⟨rfl, _, _⟩ := he
   obtain ⟨q, h1, h2⟩ := eff_field (w := w) (rep_ev h x) hv
   exact wp_pure h (v := q) (by simp only [execOp, Sem.run_bind, h1]; rfl) h2
  ·cases he
 case indexAddr ty x ix =>
  simp only [eff] at he
  split at he
  ·rename_i v ps' hv
   simp only [Option.some.injEq, Prod.mk.injEq] at he
   obtain ⟨rfl, rfl, _⟩ := he
   obtain ⟨q, h1, h2⟩ := eff_index (w := w) (rep_ev h x) (rep_ev h ix) hv hp
   exact wp_pure h (v := q) (by simp only [execOp, Sem.run_bind, h1]; rfl) h2
  ·cases he
 case extract x i =>
  simp only [eff] at he
  split at he
  ·rename_i v hv
   simp only [Option.some.injEq, Prod.mk.injEq] at he
   obtain ⟨rfl, _, _⟩ := he
   obtain ⟨q, h1, h2⟩ := eff_extract (P := P) (w := w) (rep_ev h x) hv
   exact wp_pure h (v := q) (by simp only [execOp, Sem.run_bind, h1]; rfl) h2
  ·cases he
 case call c =>
  obtain ⟨callee, args, ats⟩ := c
  have hargs := rep_evs h args.toList
  have ea : args.map a.eval = (args.toList.map a.eval).toArray := Array.toList_inj.1 (by simp)
  simp only [eff] at he
  split at he
  ·split at he
   ·rename_i v hv
    simp only [Option.some.injEq, Prod.mk.injEq] at he
    obtain ⟨rfl, _, _⟩ := he
    obtain ⟨q, h1, h2⟩ := eff_len (P := P) (w := w) (t := ty0) hargs hv
    refine wp_pure h (v := q) ?_ h2
    rw [← ea] at h1
    simp only [execOp, resolve, Sem.run_bind, Sem.run_pure, Result.andThen_ok, invoke, builtin, h1]
   ·cases he
  ·split at he
   ·rename_i k m k' n hm
    simp only [Option.some.injEq, Prod.mk.injEq] at he
    obtain ⟨rfl, _, _⟩ := he
    rw [hm] at hargs
    obtain ⟨v1, v2, hvs⟩ : ∃ v1 v2, args.toList.map a.eval = [v1, v2] := by
     cases hl : args.toList.map a.eval with
     | nil => rw [hl] at hargs; cases hargs
     | cons v1 l =>
      cases l with
      | nil => rw [hl] at hargs; cases hargs with | cons _ h2 => cases h2
      | cons v2 l =>
       cases l with
       | nil => exact ⟨v1, v2, rfl⟩
       | cons v3 l => rw [hl] at hargs; cases hargs with | cons _ h2 => cases h2 with | cons _ h3 => cases h3
    rw [hvs] at hargs ea
    cases hargs with
    | cons g1 hargs =>
    cases hargs with
    | cons g2 _ =>
    obtain rfl := g1
    obtain rfl := g2
    refine wp_pure h (v := .int k (mx m n)) ?_ rfl
    simp only [execOp, resolve, Sem.run_bind, Sem.run_pure, Result.andThen_ok, invoke, builtin, ea, run_max_int2, mx]
   ·cases he
  ·split at he
   ·rename_i k m k' n hm
    simp only [Option.some.injEq, Prod.mk.injEq] at he
    obtain ⟨rfl, _, _⟩ := he
    rw [hm] at hargs
    obtain ⟨v1, v2, hvs⟩ : ∃ v1 v2, args.toList.map a.eval = [v1, v2] := by
     cases hl : args.toList.map a.eval with
     | nil => rw [hl] at hargs; cases hargs
     | cons v1 l =>
      cases l with
      | nil => rw [hl] at hargs; cases hargs with | cons _ h2 => cases h2
      | cons v2 l =>
       cases l with
       | nil => exact ⟨v1, v2, rfl⟩
       | cons v3 l => rw [hl] at hargs; cases hargs with | cons _ h2 => cases h2 with | cons _ h3 => cases h3
    rw [hvs] at hargs ea
    cases hargs with
    | cons g1 hargs =>
    cases hargs with
    | cons g2 _ =>
    obtain rfl := g1
    obtain rfl := g2
    refine wp_pure h (v := .int k (mn m n)) ?_ rfl
    simp only [execOp, resolve, Sem.run_bind, Sem.run_pure, Result.andThen_ok, invoke, builtin, ea, run_min_int2, mn]
   ·cases he
  ·rename_i f
   split at he
   ·rename_i v an1
    split at he
    ·rename_i hc
     simp only [Option.some.injEq, Prod.mk.injEq] at he
     obtain ⟨rfl, rfl, _⟩ := he
     rw [Bool.and_eq_true] at hc
     obtain ⟨⟨fn, f1, f2, f3⟩, hcon⟩ := hp.1
     have hargs' : All2 (RepV w (Sr S r) none') (args.toList.map st.ev) (args.toList.map a.eval) := hargs.mono' fun x hx v hv => RepV.clo (List.all_eq_true.1 hc.2 x hx) hv
     have hcall := hcon w (Sr S r) (args.toList.map a.eval) (hG W w gW h.below) (h.heap_lt hS) hargs'
     unfold Oper.wp
     rw [show (execOp a.eval ⟨dst, .call ⟨.value (.func f), args, ats⟩, ty0, pos, after, guard⟩).run P w = .ok (.enter f (args.toList.map a.eval).toArray) w by
      simp only [execOp, resolve, Act.eval, Deferred.ofValue, Sem.run_bind, Sem.run_pure, Result.andThen_ok, invoke]
      rw [run_callFunc f1 f2 f3, ea]
      simp, Oper.upon_enter]
     refine hcall.mono fun e w' he' => ?_
     obtain ⟨v', x, rfl, rfl, hx, hb⟩ := he'
     exact ⟨r, fun _ _ h => h, (h.grow hb).put dst (RepV.clo hc.1 hx)⟩
    ·cases he
   ·rename_i v an1
    split at he
    ·rename_i hc
     simp only [Option.some.injEq, Prod.mk.injEq] at he
     obtain ⟨rfl, rfl, _⟩ := he
     rw [Bool.and_eq_true] at hc
     have hargs' : All2 (RepV w (Sr S r) none') (args.toList.map st.ev) (args.toList.map a.eval) := hargs.mono' fun x hx v hv => RepV.clo (List.all_eq_true.1 hc.2 x hx) hv
     obtain ⟨u, hu, hx⟩ := hp.1 w (Sr S r) _ hargs'
     refine wp_pure h (v := u) ?_ (RepV.clo hc.1 hx)
     simp only [execOp, resolve, Act.eval, Deferred.ofValue, Sem.run_bind, Sem.run_pure, Result.andThen_ok, invoke]
     rw [ea]
     simpa using hu
    ·cases he
   ·cases he
  ·rename_i x name
   split at he
   ·rename_i t l q v an1 hx
    split at he
    ·rename_i f hm
     split at he
     ·rename_i hc
      simp only [Option.some.injEq, Prod.mk.injEq] at he
      obtain ⟨rfl, rfl, _⟩ := he
      rw [Bool.and_eq_true] at hc
      obtain ⟨⟨fn, f1, f2, f3⟩, hcon⟩ := hp.2.1
      have hv := rep_evc h hx hp.1
      obtain ⟨vs, hv, h2⟩ := hv
      have hl : All2 (RepC w (Sr S r) none') (l.map IC.sc) vs := h2.map_l fun _ _ _ h => icsc h
      have hargs' : All2 (RepV w (Sr S r) none') (.ag (l.map IC.sc) :: args.toList.map st.ev) (.agg vs.toArray :: args.toList.map a.eval) :=
       .cons ⟨vs, rfl, hl⟩ (hargs.mono' fun x hx v hv => RepV.clo (List.all_eq_true.1 hc.2 x hx) hv)
      have hcall := hcon w (Sr S r) _ (hG W w gW h.below) (h.heap_lt hS) hargs'
      unfold Oper.wp
      rw [show (execOp a.eval ⟨dst, .call ⟨.invoke x name, args, ats⟩, ty0, pos, after, guard⟩).run P w = .ok (.enter f (.agg vs.toArray :: args.toList.map a.eval).toArray) w by
       have hex : (#[Value.iface t (.agg vs.toArray)] ++ args.map a.eval).extract 1 (#[Value.iface t (.agg vs.toArray)] ++ args.map a.eval).size = args.map a.eval := by
        rw [ea]
        simp
        exact List.take_of_length_le (by simp)
       have hz : (#[Value.iface t (.agg vs.toArray)] ++ args.map a.eval)[0]? = some (Value.iface t (.agg vs.toArray)) := by
        rw [Array.getElem?_append_left (by simp)]; rfl
       simp only [execOp, resolve, hv, Sem.run_bind, Sem.run_pure, Result.andThen_ok, invoke, hz, hex, callMethod, run_program]
       obtain ⟨d, hd⟩ : ∃ d, P.types.size + Made.depth = d + 1 := ⟨P.types.size + Made.depth - 1, by
        have : 0 < Made.depth := by decide
        omega⟩
       rw [hd, run_method hm]
       simp only [Result.andThen_ok]
       rw [run_callFunc f1 f2 f3, ea]
       simp, Oper.upon_enter]
      refine hcall.mono fun e w' he' => ?_
      obtain ⟨v', y, rfl, rfl, hy, hb⟩ := he'
      exact ⟨r, fun _ _ h => h, (h.grow hb).put dst (RepV.clo hc.1 hy)⟩
     ·cases he
    ·cases he
   ·cases he
  ·cases he
 case makeInterface ty x =>
  simp only [eff] at he
  split at he
  ·rename_i v hv
   simp only [Option.some.injEq, Prod.mk.injEq] at he
   obtain ⟨rfl, _, _⟩ := he
   obtain ⟨q, h1, h2⟩ := eff_makeI (P := P) (w := w) (rep_ev h x) hv
   exact wp_pure h (v := q) (by simp only [execOp, Sem.run_bind, h1]; rfl) h2
  ·cases he
 case typeAssert x xt t ok =>
  simp only [eff] at he
  split at he
  ·rename_i v hv
   simp only [Option.some.injEq, Prod.mk.injEq] at he
   obtain ⟨rfl, rfl, _⟩ := he
   obtain ⟨q, h1, h2⟩ := eff_assert (P := P) (w := w) (xt := xt) (rep_evc h (y := (st.evc x an).1) (q := (st.evc x an).2.1) (an' := (st.evc x an).2.2) rfl hp.1) hv
   exact wp_pure h (v := q) (by simp only [execOp, Sem.run_bind, h1]; rfl) h2
  ·cases he
 all_goals (simp only [eff] at he; cases he)
end
end Go.Proofs.YtelfmddcjlocpaaGreatDoor.Px
