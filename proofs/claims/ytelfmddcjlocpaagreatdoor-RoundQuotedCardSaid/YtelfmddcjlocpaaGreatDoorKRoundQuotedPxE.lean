/- Px, fifth part: the operations one by one. No condition. -/
import Derived.Test.YtelfmddcjlocpaaGreatDoorKRoundQuotedPxD
set_option linter.unusedVariables false
set_option linter.unusedSimpArgs false
namespace Go.Proofs.YtelfmddcjlocpaaGreatDoor.Px
open Go Go.RowKit Go.Proofs.YtelfmddcjlocpaaGreatDoorW.PrintWords Go.Proofs.YtelfmddcjlocpaaGreatDoorW.PrintMore
section
variable {P : Program} {W : World} {S : Nat → Prop} {r : Nat → Option Nat} {st : St} {a : Act} {w w' : World}
theorem run_typeInfo {t : TypeId} {inf : TypeInfo} (h : P.info? t = some inf) (w : World) : (typeInfo t).run P w = .ok inf w := by simp [typeInfo, h]
theorem run_sizeOf {t : TypeId} {inf : TypeInfo} (h : P.info? t = some inf) (w : World) : (sizeOf t).run P w = .ok inf.size w := by simp [sizeOf, run_typeInfo h]
theorem run_isAgg {t : TypeId} {d : TypeDesc} (h : P.underlying t = some d) (w : World) : (isAgg t).run P w = .ok (aggD d) w := by
 simp only [isAgg, Sem.run_bind, run_underlying h, Result.andThen_ok]
 cases d <;> rfl
theorem add_plain (b off j : Nat) : (⟨b, off, none⟩ : Addr).add j = ⟨b, off + j, none⟩ := by
 unfold Addr.add
 split
 ·rename_i h; subst h; rfl
 ·rfl
theorem cell_row {b off : Nat} {vs : List Value} {ty : TypeId} {fz : Nat × Nat} (h : w.heap[b]? = some (.cells vs.toArray ty fz)) : w.cell? ⟨b, off, none⟩ = vs[off]? := by
 unfold World.cell?
 rw [h]
 simp
theorem run_loadVar_local {b off : Nat} {vs : List Value} {ty t : TypeId} {fz : Nat × Nat} {inf : TypeInfo} {d : TypeDesc} (h : w.heap[b]? = some (.cells vs.toArray ty fz)) (hi : P.info? t = some inf) (hu : P.underlying t = some d) (hd : aggD d = true)
  (hs : off + inf.size ≤ vs.length) : (loadVar t ⟨b, off, none⟩).run P w = .ok (.agg ((vs.drop off).take inf.size).toArray) w := by
 have hl := run_loadCells_list (P := P) w ⟨b, off, none⟩ ((vs.drop off).take inf.size) (fun j v hv => by
  rw [add_plain, cell_row h]
  rw [List.getElem?_take] at hv
  split at hv
  ·simpa using hv
  ·cases hv)
 have e : ((vs.drop off).take inf.size).length = inf.size := by simp; omega
 rw [e] at hl
 simp [loadVar, run_isAgg hu, hd, run_sizeOf hi, hl]
theorem run_loadVar_cell {b off : Nat} {t : TypeId} {d : TypeDesc} {v : Value} (hu : P.underlying t = some d) (hd : aggD d = false) (hc : w.cell? ⟨b, off, none⟩ = some v) : (loadVar t ⟨b, off, none⟩).run P w = .ok v w := by
 simp [loadVar, run_isAgg hu, hd, hc]
theorem eff_load (h : Rp W S r st a w) {t : TypeId} {x : PV} {v : Value} (hv : RepV w (Sr S r) r x v) {e : E} (he : effLoad P st t x = some e) :
  ∃ y u, e = .v y ∧ (Instr.loadAt t v).run P w = .ok u w ∧ RepV w (Sr S r) r y u := by
 unfold effLoad at he
 cases hi : P.info? t with
 | none => rw [hi] at he; cases he
 | some inf =>
 cases hu : P.underlying t with
 | none => rw [hi, hu] at he; cases he
 | some d =>
 rw [hi, hu] at he
 dsimp only at he
 cases x with
 | ag l => cases he
 | tu l => cases he
 | s c =>
 cases c with
 | lo n off =>
  obtain ⟨b, hb, rfl⟩ := hv
  obtain ⟨_, ty, l, vs, hg, hw, hl⟩ := h.dom n b hb
  dsimp only at he
  rw [hg] at he
  dsimp only at he
  cases hd : aggD d with
  | true =>
   rw [hd] at he
   dsimp only at he
   cases hc : Nat.ble (off + inf.size) l.length with
   | false => rw [hc] at he; cases he
   | true =>
    rw [hc] at he
    obtain rfl := Option.some.inj he
    have hc' := Nat.le_of_ble_eq_true hc
    refine ⟨_, _, rfl, ?_, ((vs.drop off).take inf.size), rfl, (hl.drop off).take inf.size⟩
    have := run_loadVar_local (P := P) hw hi hu hd (off := off) (by rw [← hl.len]; exact hc')
    simp [Instr.loadAt, Instr.sureAddr, this]
  | false =>
   rw [hd] at he
   dsimp only at he
   cases hc : l[off]? with
   | none => rw [hc] at he; cases he
   | some c =>
    rw [hc] at he
    obtain rfl := Option.some.inj he
    obtain ⟨u, hu', hr⟩ := hl.get hc
    refine ⟨_, u, rfl, ?_, hr⟩
    have := run_loadVar_cell (P := P) (b := b) (off := off) hu hd (by rw [cell_row hw]; exact hu')
    simp [Instr.loadAt, Instr.sureAddr, this]
 | ep k m =>
  obtain ⟨b, o, rfl, _, hc⟩ := hv
  dsimp only at he
  cases hd : aggD d with
  | true => rw [hd] at he; cases he
  | false =>
   rw [hd] at he
   obtain rfl := Option.some.inj he
   refine ⟨_, _, rfl, ?_, rfl⟩
   have := run_loadVar_cell (P := P) (b := b) (off := o) hu hd hc
   simp [Instr.loadAt, Instr.sureAddr, this]
 | _ => cases he
theorem fit_one {c : SC} {v : Value} {T : Nat → Prop} (hc : c.fit = true) (h : RepC w T r c v) : v.oneCell' = true := by
 cases c with
 | i k n => obtain rfl := h; rfl
 | b y => obtain rfl := h; rfl
 | fl k n => obtain rfl := h; rfl
 | sl k l => obtain ⟨A, c, rfl, _⟩ := h; rfl
 | ep k n => obtain ⟨b, o, rfl, _⟩ := h; rfl
 | lo i o => obtain ⟨b, _, rfl⟩ := h; rfl
 | ifc t l => obtain ⟨vs, rfl, _⟩ := h; rfl
 | un => cases hc
 | top => cases hc
theorem spliceV_set : ∀ (l : List Value) (n : Nat) (v : Value) (m : List Value), n + (m.length + 1) ≤ l.length → spliceV (l.set n v) (n + 1) m = spliceV l n (v :: m)
 | [], n, v, m, h => by simp at h
 | x :: t, 0, v, m, h => by simp [spliceV]
 | x :: t, n + 1, v, m, h => by simp [spliceV]; exact spliceV_set t n v m (by simp at h; omega)
theorem spliceV_nil : ∀ (l : List Value) (n : Nat), spliceV l n [] = l
 | [], 0 => rfl
 | [], _ + 1 => rfl
 | _ :: _, 0 => rfl
 | x :: t, n + 1 => by simp [spliceV, spliceV_nil t n]
theorem world_same (w : World) (b : Nat) (x : Obj) (h : w.heap[b]? = some x) : { w with heap := w.heap.setIfInBounds b x } = w := by
 have : w.heap.setIfInBounds b x = w.heap := by
  apply Array.ext_getElem?
  intro i
  rw [Array.getElem?_setIfInBounds]
  split
  ·rename_i e; subst e; rw [if_pos (lt_of_heap h), h]
  ·rfl
 rw [this]
theorem run_storeCells {b : Nat} {ty : TypeId} : ∀ (us : List Value) (w : World) (vs : List Value) (off i : Nat), w.heap[b]? = some (.cells vs.toArray ty (0, 0)) → off + i + us.length ≤ vs.length → (∀ u ∈ us, u.oneCell' = true) →
  (storeCells ⟨b, off, none⟩ us i).run P w = .ok () { w with heap := w.heap.setIfInBounds b (.cells (spliceV vs (off + i) us).toArray ty (0, 0)) }
 | [], w, vs, off, i, h, _, _ => by
  rw [spliceV_nil, world_same w b _ h]
  rfl
 | u :: us, w, vs, off, i, h, hl, ho => by
  have hlt : off + i < vs.length := by simp at hl; omega
  have hset : w.setCell ⟨b, off + i, none⟩ u = { w with heap := w.heap.setIfInBounds b (.cells (vs.set (off + i) u).toArray ty (0, 0)) } := by
   unfold World.setCell
   congr 1
   apply Array.ext_getElem?
   intro j
   rw [Array.getElem?_modify, Array.getElem?_setIfInBounds]
   by_cases e : b = j
   ·subst e
    rw [if_pos rfl, if_pos rfl, if_pos (lt_of_heap h), h]
    simp
   ·rw [if_neg e, if_neg e]
  have hst : (store ⟨b, off + i, none⟩ u).run P w = .ok () (w.setCell ⟨b, off + i, none⟩ u) := by
   rw [run_store P w _ u _ (ho u (List.mem_cons_self ..)), cell_row h, List.getElem?_eq_getElem hlt]
   have hf : w.frozen? ⟨b, off + i, none⟩ = false := by
    unfold World.frozen?
    rw [h]
    simp
   simp [hf]
  have hrec := run_storeCells (ty := ty) us { w with heap := w.heap.setIfInBounds b (.cells (vs.set (off + i) u).toArray ty (0, 0)) } (vs.set (off + i) u) off (i + 1) (by
   show (w.heap.setIfInBounds b _)[b]? = _
   simp [lt_of_heap h]) (by simp at hl ⊢; omega) (fun x hx => ho x (List.mem_cons_of_mem _ hx))
  simp only [storeCells, Sem.run_bind, add_plain, hst, Result.andThen_ok]
  rw [hset, hrec]
  congr 2
  show (w.heap.setIfInBounds b _).setIfInBounds b _ = _
  rw [show off + (i + 1) = off + i + 1 by omega, spliceV_set _ _ _ _ (by simp at hl; omega)]
  simp
theorem eff_store (h : Rp W S r st a w) {t : TypeId} {x y : PV} {v u : Value} (hv : RepV w (Sr S r) r x v) (hu : RepV w (Sr S r) r y u) {e : E} (he : effStore P st t x y = some e) (d : Option Nat) :
  ∃ w', (Instr.storeAt t v u).run P w = .ok () w' ∧ Nxt W S r (app d e st) (a.put d undef) w' := by
 unfold effStore at he
 cases hi : P.info? t with
 | none => rw [hi] at he; cases he
 | some inf =>
 rw [hi] at he
 dsimp only at he
 cases x with
 | ag l => cases he
 | tu l => cases he
 | s c =>
 cases c with
 | lo n off =>
  obtain ⟨b, hb, rfl⟩ := hv
  obtain ⟨_, ty, l, vs, hg, hw, hl⟩ := h.dom n b hb
  dsimp only at he
  rw [hg] at he
  dsimp only at he
  cases hc : (Nat.beq y.cells.length inf.size && Nat.ble (off + y.cells.length) l.length && y.cells.all SC.fit) with
  | false => rw [hc] at he; cases he
  | true =>
   rw [hc] at he
   obtain rfl := Option.some.inj he
   rw [Bool.and_eq_true, Bool.and_eq_true] at hc
   obtain ⟨⟨h1, h2⟩, h3⟩ := hc
   have h1 := Nat.eq_of_beq_eq_true h1
   have h2 := Nat.le_of_ble_eq_true h2
   have hcs := rep_cells hu h3
   have hlen := hcs.len
   have hone : ∀ z ∈ u.cells.toList, z.oneCell' = true := by
    intro z hz
    obtain ⟨j, hj⟩ := List.getElem?_of_mem hz
    have hjl : j < y.cells.length := by rw [hlen]; exact (List.getElem?_eq_some_iff.1 hj).1
    obtain ⟨z', hz', hr⟩ := hcs.get (List.getElem?_eq_getElem hjl)
    rw [hj] at hz'
    obtain rfl := Option.some.inj hz'
    exact fit_one (List.all_eq_true.1 h3 _ (List.getElem_mem hjl)) hr
   have hst := run_storeCells (P := P) (b := b) (ty := ty) u.cells.toList w vs off 0 hw (by rw [← hlen, ← hl.len]; omega) hone
   rw [Nat.add_zero] at hst
   refine ⟨{ w with heap := w.heap.setIfInBounds b (.cells (spliceV vs off u.cells.toList).toArray ty (0, 0)) }, ?_, r, fun _ _ h => h, ?_⟩
   ·have hsz : u.cells.size = inf.size := by rw [← h1, hlen]; simp
    simp only [Instr.storeAt, Instr.sureAddr, storeVar, Sem.run_bind, Sem.run_pure, Result.andThen_ok, run_sizeOf hi, hsz, ne_eq, not_true_eq_false, if_false, hst]
   ·have hk := h.sto (w' := { w with heap := w.heap.setIfInBounds b (.cells (spliceV vs off u.cells.toList).toArray ty (0, 0)) }) hb hg hw hl hcs rfl
    have := hk.put d (x := .s .un) (v := undef) rfl
    simp only [app, hg]
    exact this
 | _ => cases he
theorem run_part {t : TypeId} {inf : TypeInfo} {d : TypeDesc} (hi : P.info? t = some inf) (hu : P.underlying t = some d) (cs : Array Value) (off : Nat) :
  (part t cs off).run P w = if aggD d = true then .ok (.agg (cs.extract off (off + inf.size))) w else match cs[off]? with | some v => .ok v w | none => .halt (.stuck "part: no such cell") w := by
 simp only [part, Sem.run_bind, run_isAgg hu, Result.andThen_ok]
 cases aggD d
 ·simp only [Bool.false_eq_true, if_false]
  cases cs[off]? <;> rfl
 ·simp [run_sizeOf hi]
theorem eff_field {t : TypeId} {x y : PV} {f : Nat} {v : Value} {T : Nat → Prop} (hv : RepV w T r x v) (he : effField P t x f = some y) :
  ∃ u, (Instr.field t v f).run P w = .ok u w ∧ RepV w T r y u := by
 unfold effField at he
 cases ht : P.underlying t with
 | none => rw [ht] at he; cases he
 | some d =>
 rw [ht] at he
 cases d with
 | struct fs =>
  dsimp only at he
  cases hf : fs[f]? with
  | none => rw [hf] at he; cases he
  | some fd =>
  rw [hf] at he
  dsimp only at he
  cases hi : P.info? fd.type with
  | none => rw [hi] at he; cases he
  | some inf =>
  cases hu : P.underlying fd.type with
  | none => rw [hi, hu] at he; cases he
  | some d =>
  rw [hi, hu] at he
  dsimp only at he
  cases x with
  | s c => cases he
  | tu l => cases he
  | ag l =>
  obtain ⟨vs, rfl, hl⟩ := hv
  have hp := run_part (P := P) (w := w) hi hu vs.toArray fd.offset
  cases hd : aggD d with
  | true =>
   rw [hd] at he hp
   obtain rfl := Option.some.inj he
   refine ⟨.agg ((vs.drop fd.offset).take inf.size).toArray, ?_, _, rfl, (hl.drop _).take _⟩
   have e : vs.toArray.extract fd.offset (fd.offset + inf.size) = ((vs.drop fd.offset).take inf.size).toArray := by
    rw [List.extract_toArray]
    congr 1
    simp [List.extract]
   rw [if_pos rfl, e] at hp
   simp [Instr.field, run_underlying ht, hf, asAgg, hp]
  | false =>
   rw [hd] at he hp
   dsimp only at he
   cases hc : l[fd.offset]? with
   | none => rw [hc] at he; cases he
   | some c =>
    rw [hc] at he
    obtain rfl := Option.some.inj he
    obtain ⟨u, hu', hr⟩ := hl.get hc
    refine ⟨u, ?_, hr⟩
    rw [if_neg (by decide), List.getElem?_toArray, hu'] at hp
    simp [Instr.field, run_underlying ht, hf, asAgg, hp]
 | _ => cases he
theorem eff_fieldAddr {t : TypeId} {x y : PV} {f : Nat} {v : Value} {T : Nat → Prop} (hv : RepV w T r x v) (he : effFieldAddr P t x f = some y) :
  ∃ u, (Instr.fieldAt t v f).run P w = .ok u w ∧ RepV w T r y u := by
 unfold effFieldAddr at he
 cases ht : P.underlying t with
 | none => rw [ht] at he; cases he
 | some d =>
 rw [ht] at he
 cases d with
 | struct fs =>
  dsimp only at he
  cases hf : fs[f]? with
  | none => rw [hf] at he; cases he
  | some fd =>
  rw [hf] at he
  dsimp only at he
  cases hi : P.info? fd.type with
  | none => rw [hi] at he; cases he
  | some inf =>
  rw [hi] at he
  dsimp only at he
  cases x with
  | ag l => cases he
  | tu l => cases he
  | s c =>
  cases c with
  | lo n off =>
   obtain ⟨b, hb, rfl⟩ := hv
   dsimp only at he
   cases hz : Nat.beq inf.size 0 with
   | true => rw [hz] at he; cases he
   | false =>
    rw [hz] at he
    obtain rfl := Option.some.inj he
    have hz' : inf.size ≠ 0 := fun e => by rw [e] at hz; cases hz
    refine ⟨.pointer (some ⟨b, off + fd.offset, none⟩), ?_, b, hb, rfl⟩
    simp [Instr.fieldAt, run_underlying ht, hf, Instr.sureAddr, fieldPlace, run_sizeOf hi, hz', add_plain]
  | _ => cases he
 | _ => cases he
end
end Go.Proofs.YtelfmddcjlocpaaGreatDoor.Px
