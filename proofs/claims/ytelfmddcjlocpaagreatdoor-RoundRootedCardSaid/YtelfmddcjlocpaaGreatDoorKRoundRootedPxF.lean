/- Px, fifth part: the operations one by one. No condition. Px, sixth part: arithmetic, comparisons, conversions, slices, literals; all operations in one. No condition. -/
import Derived.Test.YtelfmddcjlocpaaGreatDoorKRoundRootedPxD
section
set_option linter.unusedVariables false
set_option linter.unusedSimpArgs false
namespace Go.Proofs.YtelfmddcjlocpaaGreatDoor.Px
open Go Go.RowKit Go.Proofs.YtelfmddcjlocpaaGreatDoorW.PrintWords Go.Proofs.YtelfmddcjlocpaaGreatDoorW.PrintMore
section
variable {P : Program} {W : World} {S : Nat → Prop} {r : Nat → Option Nat} {st : St} {a : Act} {w w' : World}
theorem run_typeInfo {t : TypeId} {inf : TypeInfo} (h : P.info? t = some inf) (w : World) : (typeInfo t).run P w = .ok inf w := by simp [typeInfo, h]
theorem run_sizeOf {t : TypeId} {inf : TypeInfo} (h : P.info? t = some inf) (w : World) : (sizeOf t).run P w = .ok inf.size w := by simp [sizeOf, run_typeInfo h]
theorem run_isAgg {t : TypeId} {d : TypeDesc} (h : P.underlying t = some d) (w : World) : (isAgg t).run P w = .ok (aggD d) w := by
  simp only [isAgg, Sem.run_bind, run_underlying h, Result.andThen_ok]
  cases d <;> rfl
theorem add_plain (b off j : Nat) : (⟨b, off, none⟩ : Addr).add j = ⟨b, off + j, none⟩ := by
  unfold Addr.add
  split
  · rename_i h; subst h; rfl
  · rfl
theorem cell_row {b off : Nat} {vs : List Value} {ty : TypeId} {fz : Nat × Nat} (h : w.heap[b]? = some (.cells vs.toArray ty fz)) : w.cell? ⟨b, off, none⟩ = vs[off]? := by
  unfold World.cell?
  rw [h]
  simp
theorem run_loadVar_local {b off : Nat} {vs : List Value} {ty t : TypeId} {fz : Nat × Nat} {inf : TypeInfo} {d : TypeDesc} (h : w.heap[b]? = some (.cells vs.toArray ty fz)) (hi : P.info? t = some inf) (hu : P.underlying t = some d) (hd : aggD d = true)
    (hs : off + inf.size ≤ vs.length) : (loadVar t ⟨b, off, none⟩).run P w = .ok (.agg ((vs.drop off).take inf.size).toArray) w := by
  have hl := run_loadCells_list (P := P) w ⟨b, off, none⟩ ((vs.drop off).take inf.size) (fun j v hv => by
    rw [add_plain, cell_row h]
    rw [List.getElem?_take] at hv
    split at hv
    · simpa using hv
    · cases hv)
  have e : ((vs.drop off).take inf.size).length = inf.size := by simp; omega
  rw [e] at hl
  simp [loadVar, run_isAgg hu, hd, run_sizeOf hi, hl]
theorem run_loadVar_cell {b off : Nat} {t : TypeId} {d : TypeDesc} {v : Value} (hu : P.underlying t = some d) (hd : aggD d = false) (hc : w.cell? ⟨b, off, none⟩ = some v) : (loadVar t ⟨b, off, none⟩).run P w = .ok v w := by
  simp [loadVar, run_isAgg hu, hd, hc]
theorem eff_load (h : Rp W S r st a w) {t : TypeId} {x : PV} {v : Value} (hv : RepV w (Sr S r) r x v) {e : E} (he : effLoad P st t x = some e) :
    ∃ y u, e = .v y ∧ (Instr.loadAt t v).run P w = .ok u w ∧ RepV w (Sr S r) r y u := by
  unfold effLoad at he
  cases hi : P.info? t with
  | none => rw [hi] at he; cases he
  | some inf =>
  cases hu : P.underlying t with
  | none => rw [hi, hu] at he; cases he
  | some d =>
  rw [hi, hu] at he
  dsimp only at he
  cases x with
  | ag l => cases he
  | tu l => cases he
  | s c =>
  cases c with
  | lo n off =>
    obtain ⟨b, hb, rfl⟩ := hv
    obtain ⟨_, ty, l, vs, hg, hw, hl⟩ := h.dom n b hb
    dsimp only at he
    rw [hg] at he
    dsimp only at he
    cases hd : aggD d with
    | true =>
      rw [hd] at he
      dsimp only at he
      cases hc : Nat.ble (off + inf.size) l.length with
      | false => rw [hc] at he; cases he
      | true =>
        rw [hc] at he
        obtain rfl := Option.some.inj he
        have hc' := Nat.le_of_ble_eq_true hc
        refine ⟨_, _, rfl, ?_, ((vs.drop off).take inf.size), rfl, (hl.drop off).take inf.size⟩
        have := run_loadVar_local (P := P) hw hi hu hd (off := off) (by rw [← hl.len]; exact hc')
        simp [Instr.loadAt, Instr.sureAddr, this]
    | false =>
      rw [hd] at he
      dsimp only at he
      cases hc : l[off]? with
      | none => rw [hc] at he; cases he
      | some c =>
        rw [hc] at he
        obtain rfl := Option.some.inj he
        obtain ⟨u, hu', hr⟩ := hl.get hc
        refine ⟨_, u, rfl, ?_, hr⟩
        have := run_loadVar_cell (P := P) (b := b) (off := off) hu hd (by rw [cell_row hw]; exact hu')
        simp [Instr.loadAt, Instr.sureAddr, this]
  | ep k m =>
    obtain ⟨b, o, rfl, _, hc⟩ := hv
    dsimp only at he
    cases hd : aggD d with
    | true => rw [hd] at he; cases he
    | false =>
      rw [hd] at he
      obtain rfl := Option.some.inj he
      refine ⟨_, _, rfl, ?_, rfl⟩
      have := run_loadVar_cell (P := P) (b := b) (off := o) hu hd hc
      simp [Instr.loadAt, Instr.sureAddr, this]
  | _ => cases he
theorem fit_one {c : SC} {v : Value} {T : Nat → Prop} (hc : c.fit = true) (h : RepC w T r c v) : v.oneCell' = true := by
  cases c with
  | i k n => obtain rfl := h; rfl
  | b y => obtain rfl := h; rfl
  | fl k n => obtain rfl := h; rfl
  | sl k l => obtain ⟨A, c, rfl, _⟩ := h; rfl
  | ep k n => obtain ⟨b, o, rfl, _⟩ := h; rfl
  | lo i o => obtain ⟨b, _, rfl⟩ := h; rfl
  | ifc t l => obtain ⟨vs, rfl, _⟩ := h; rfl
  | un => cases hc
  | top => cases hc
theorem spliceV_set : ∀ (l : List Value) (n : Nat) (v : Value) (m : List Value), n + (m.length + 1) ≤ l.length → spliceV (l.set n v) (n + 1) m = spliceV l n (v :: m)
  | [], n, v, m, h => by simp at h
  | x :: t, 0, v, m, h => by simp [spliceV]
  | x :: t, n + 1, v, m, h => by simp [spliceV]; exact spliceV_set t n v m (by simp at h; omega)
theorem spliceV_nil : ∀ (l : List Value) (n : Nat), spliceV l n [] = l
  | [], 0 => rfl
  | [], _ + 1 => rfl
  | _ :: _, 0 => rfl
  | x :: t, n + 1 => by simp [spliceV, spliceV_nil t n]
theorem world_same (w : World) (b : Nat) (x : Obj) (h : w.heap[b]? = some x) : { w with heap := w.heap.setIfInBounds b x } = w := by
  have : w.heap.setIfInBounds b x = w.heap := by
    apply Array.ext_getElem?
    intro i
    rw [Array.getElem?_setIfInBounds]
    split
    · rename_i e; subst e; rw [if_pos (lt_of_heap h), h]
    · rfl
  rw [this]
theorem run_storeCells {b : Nat} {ty : TypeId} : ∀ (us : List Value) (w : World) (vs : List Value) (off i : Nat), w.heap[b]? = some (.cells vs.toArray ty (0, 0)) → off + i + us.length ≤ vs.length → (∀ u ∈ us, u.oneCell' = true) →
    (storeCells ⟨b, off, none⟩ us i).run P w = .ok () { w with heap := w.heap.setIfInBounds b (.cells (spliceV vs (off + i) us).toArray ty (0, 0)) }
  | [], w, vs, off, i, h, _, _ => by
    rw [spliceV_nil, world_same w b _ h]
    rfl
  | u :: us, w, vs, off, i, h, hl, ho => by
    have hlt : off + i < vs.length := by simp at hl; omega
    have hset : w.setCell ⟨b, off + i, none⟩ u = { w with heap := w.heap.setIfInBounds b (.cells (vs.set (off + i) u).toArray ty (0, 0)) } := by
      unfold World.setCell
      congr 1
      apply Array.ext_getElem?
      intro j
      rw [Array.getElem?_modify, Array.getElem?_setIfInBounds]
      by_cases e : b = j
      · subst e
        rw [if_pos rfl, if_pos rfl, if_pos (lt_of_heap h), h]
        simp
      · rw [if_neg e, if_neg e]
    have hst : (store ⟨b, off + i, none⟩ u).run P w = .ok () (w.setCell ⟨b, off + i, none⟩ u) := by
      rw [run_store P w _ u _ (ho u (List.mem_cons_self ..)), cell_row h, List.getElem?_eq_getElem hlt]
      have hf : w.frozen? ⟨b, off + i, none⟩ = false := by
        unfold World.frozen?
        rw [h]
        simp
      simp [hf]
    have hrec := run_storeCells (ty := ty) us { w with heap := w.heap.setIfInBounds b (.cells (vs.set (off + i) u).toArray ty (0, 0)) } (vs.set (off + i) u) off (i + 1) (by
      show (w.heap.setIfInBounds b _)[b]? = _
      simp [lt_of_heap h]) (by simp at hl ⊢; omega) (fun x hx => ho x (List.mem_cons_of_mem _ hx))
    simp only [storeCells, Sem.run_bind, add_plain, hst, Result.andThen_ok]
    rw [hset, hrec]
    congr 2
    show (w.heap.setIfInBounds b _).setIfInBounds b _ = _
    rw [show off + (i + 1) = off + i + 1 by omega, spliceV_set _ _ _ _ (by simp at hl; omega)]
    simp
theorem eff_store (h : Rp W S r st a w) {t : TypeId} {x y : PV} {v u : Value} (hv : RepV w (Sr S r) r x v) (hu : RepV w (Sr S r) r y u) {e : E} (he : effStore P st t x y = some e) (d : Option Nat) :
    ∃ w', (Instr.storeAt t v u).run P w = .ok () w' ∧ Nxt W S r (app d e st) (a.put d undef) w' := by
  unfold effStore at he
  cases hi : P.info? t with
  | none => rw [hi] at he; cases he
  | some inf =>
  rw [hi] at he
  dsimp only at he
  cases x with
  | ag l => cases he
  | tu l => cases he
  | s c =>
  cases c with
  | lo n off =>
    obtain ⟨b, hb, rfl⟩ := hv
    obtain ⟨_, ty, l, vs, hg, hw, hl⟩ := h.dom n b hb
    dsimp only at he
    rw [hg] at he
    dsimp only at he
    cases hc : (Nat.beq y.cells.length inf.size && Nat.ble (off + y.cells.length) l.length && y.cells.all SC.fit) with
    | false => rw [hc] at he; cases he
    | true =>
      rw [hc] at he
      obtain rfl := Option.some.inj he
      rw [Bool.and_eq_true, Bool.and_eq_true] at hc
      obtain ⟨⟨h1, h2⟩, h3⟩ := hc
      have h1 := Nat.eq_of_beq_eq_true h1
      have h2 := Nat.le_of_ble_eq_true h2
      have hcs := rep_cells hu h3
      have hlen := hcs.len
      have hone : ∀ z ∈ u.cells.toList, z.oneCell' = true := by
        intro z hz
        obtain ⟨j, hj⟩ := List.getElem?_of_mem hz
        have hjl : j < y.cells.length := by rw [hlen]; exact (List.getElem?_eq_some_iff.1 hj).1
        obtain ⟨z', hz', hr⟩ := hcs.get (List.getElem?_eq_getElem hjl)
        rw [hj] at hz'
        obtain rfl := Option.some.inj hz'
        exact fit_one (List.all_eq_true.1 h3 _ (List.getElem_mem hjl)) hr
      have hst := run_storeCells (P := P) (b := b) (ty := ty) u.cells.toList w vs off 0 hw (by rw [← hlen, ← hl.len]; omega) hone
      rw [Nat.add_zero] at hst
      refine ⟨{ w with heap := w.heap.setIfInBounds b (.cells (spliceV vs off u.cells.toList).toArray ty (0, 0)) }, ?_, r, fun _ _ h => h, ?_⟩
      · have hsz : u.cells.size = inf.size := by rw [← h1, hlen]; simp
        simp only [Instr.storeAt, Instr.sureAddr, storeVar, Sem.run_bind, Sem.run_pure, Result.andThen_ok, run_sizeOf hi, hsz, ne_eq, not_true_eq_false, if_false, hst]
      · have hk := h.sto (w' := { w with heap := w.heap.setIfInBounds b (.cells (spliceV vs off u.cells.toList).toArray ty (0, 0)) }) hb hg hw hl hcs rfl
        have := hk.put d (x := .s .un) (v := undef) rfl
        simp only [app, hg]
        exact this
  | _ => cases he
theorem run_part {t : TypeId} {inf : TypeInfo} {d : TypeDesc} (hi : P.info? t = some inf) (hu : P.underlying t = some d) (cs : Array Value) (off : Nat) :
    (part t cs off).run P w = if aggD d = true then .ok (.agg (cs.extract off (off + inf.size))) w else match cs[off]? with | some v => .ok v w | none => .halt (.stuck "part: no such cell") w := by
  simp only [part, Sem.run_bind, run_isAgg hu, Result.andThen_ok]
  cases aggD d
  · simp only [Bool.false_eq_true, if_false]
    cases cs[off]? <;> rfl
  · simp [run_sizeOf hi]
theorem eff_field {t : TypeId} {x y : PV} {f : Nat} {v : Value} {T : Nat → Prop} (hv : RepV w T r x v) (he : effField P t x f = some y) :
    ∃ u, (Instr.field t v f).run P w = .ok u w ∧ RepV w T r y u := by
  unfold effField at he
  cases ht : P.underlying t with
  | none => rw [ht] at he; cases he
  | some d =>
  rw [ht] at he
  cases d with
  | struct fs =>
    dsimp only at he
    cases hf : fs[f]? with
    | none => rw [hf] at he; cases he
    | some fd =>
    rw [hf] at he
    dsimp only at he
    cases hi : P.info? fd.type with
    | none => rw [hi] at he; cases he
    | some inf =>
    cases hu : P.underlying fd.type with
    | none => rw [hi, hu] at he; cases he
    | some d =>
    rw [hi, hu] at he
    dsimp only at he
    cases x with
    | s c => cases he
    | tu l => cases he
    | ag l =>
    obtain ⟨vs, rfl, hl⟩ := hv
    have hp := run_part (P := P) (w := w) hi hu vs.toArray fd.offset
    cases hd : aggD d with
    | true =>
      rw [hd] at he hp
      obtain rfl := Option.some.inj he
      refine ⟨.agg ((vs.drop fd.offset).take inf.size).toArray, ?_, _, rfl, (hl.drop _).take _⟩
      have e : vs.toArray.extract fd.offset (fd.offset + inf.size) = ((vs.drop fd.offset).take inf.size).toArray := by
        rw [List.extract_toArray]
        congr 1
        simp [List.extract]
      rw [if_pos rfl, e] at hp
      simp [Instr.field, run_underlying ht, hf, asAgg, hp]
    | false =>
      rw [hd] at he hp
      dsimp only at he
      cases hc : l[fd.offset]? with
      | none => rw [hc] at he; cases he
      | some c =>
        rw [hc] at he
        obtain rfl := Option.some.inj he
        obtain ⟨u, hu', hr⟩ := hl.get hc
        refine ⟨u, ?_, hr⟩
        rw [if_neg (by decide), List.getElem?_toArray, hu'] at hp
        simp [Instr.field, run_underlying ht, hf, asAgg, hp]
  | _ => cases he
theorem eff_fieldAddr {t : TypeId} {x y : PV} {f : Nat} {v : Value} {T : Nat → Prop} (hv : RepV w T r x v) (he : effFieldAddr P t x f = some y) :
    ∃ u, (Instr.fieldAt t v f).run P w = .ok u w ∧ RepV w T r y u := by
  unfold effFieldAddr at he
  cases ht : P.underlying t with
  | none => rw [ht] at he; cases he
  | some d =>
  rw [ht] at he
  cases d with
  | struct fs =>
    dsimp only at he
    cases hf : fs[f]? with
    | none => rw [hf] at he; cases he
    | some fd =>
    rw [hf] at he
    dsimp only at he
    cases hi : P.info? fd.type with
    | none => rw [hi] at he; cases he
    | some inf =>
    rw [hi] at he
    dsimp only at he
    cases x with
    | ag l => cases he
    | tu l => cases he
    | s c =>
    cases c with
    | lo n off =>
      obtain ⟨b, hb, rfl⟩ := hv
      dsimp only at he
      cases hz : Nat.beq inf.size 0 with
      | true => rw [hz] at he; cases he
      | false =>
        rw [hz] at he
        obtain rfl := Option.some.inj he
        have hz' : inf.size ≠ 0 := fun e => by rw [e] at hz; cases hz
        refine ⟨.pointer (some ⟨b, off + fd.offset, none⟩), ?_, b, hb, rfl⟩
        simp [Instr.fieldAt, run_underlying ht, hf, Instr.sureAddr, fieldPlace, run_sizeOf hi, hz', add_plain]
    | _ => cases he
  | _ => cases he
end
end Go.Proofs.YtelfmddcjlocpaaGreatDoor.Px
end
section
set_option linter.unusedVariables false
set_option linter.unusedSimpArgs false
namespace Go.Proofs.YtelfmddcjlocpaaGreatDoor.Px
open Go Go.RowKit Go.Proofs.YtelfmddcjlocpaaGreatDoorW.PrintWords Go.Proofs.YtelfmddcjlocpaaGreatDoorW.PrintMore
section
variable {P : Program} {W : World} {S : Nat → Prop} {r : Nat → Option Nat} {st : St} {a : Act} {w w' : World}
theorem wr_eq (k : IntKind) (n : Int) : wr k n = k.wrap n := by
  cases k <;> try rfl
  unfold wr wrap64 IntKind.wrap
  simp only [IntKind.bits, IntKind.signed, Bool.true_and]
  split
  · rename_i h; simp at h; omega
  · rename_i h; simp at h; omega
theorem run_int (op : BinOp) (k : IntKind) (t : TypeId) (x y : Int) (kk : IntKind) (hk : (shiftOp op || decide (k = kk)) = true) (hp : allP (effInt op k x y).2) :
    ∃ u, (binOp op t (.int k x) (.int kk y)).run P w = .ok u w ∧ ∀ T, RepC w T r (effInt op k x y).1 u := by
  cases op
  case shl => exact ⟨_, by simp [binOp, shift_shl_any k kk x y hp.1, shl], fun T => rfl⟩
  case shr => exact ⟨_, by simp [binOp, shift_shr_any k kk x y hp.1, shr], fun T => rfl⟩
  all_goals
    obtain rfl : k = kk := of_decide_eq_true (by simpa [shiftOp] using hk)
    first
    | (refine ⟨_, ?_, fun T => rfl⟩
       first
       | (simp [binOp, Op.intArith, wr_eq]; done)
       | (simp [binOp, Op.intCmp]; done)
       | (simp [binOp, Op.intDiv, hp.1, wr_eq]; done)
       | (have h0 : y ≠ 0 := hp.1
          simp [binOp, Op.intDiv, h0, wr_eq]; done)
       | (simp [binOp, Op.intBits, Go.bits]; done))
theorem eqGuard_int (op : BinOp) (t : TypeId) (x y : Operand) (k kk : IntKind) (m n : Int) : (eqGuard op t x y (.int k m) (.int kk n)).run P w = .ok () w := by
  cases op <;> rfl
theorem eqGuard_bool (op : BinOp) (t : TypeId) (x y : Operand) (m n : Bool) : (eqGuard op t x y (.bool m) (.bool n)).run P w = .ok () w := by
  cases op <;> rfl
theorem eqGuard_float (op : BinOp) (t : TypeId) (x y : Operand) (k kk : FloatKind) (m n : Nat) : (eqGuard op t x y (.float k m) (.float kk n)).run P w = .ok () w := by
  cases op <;> rfl
theorem plainS_go_len {T : Nat → Prop} (P : Program) (d : Nat) : ∀ (o : Nat) (fs : List Field) (l m : List SC) (pre xs ys : List Value) (pre2 : List Value), plainS.go P o fs l m = true → pre.length = o → pre2.length = o →
    All2 (RepC w T r) l xs → All2 (RepC w T r) m ys → ∃ b, (l = [] ∨ eqL l m = some b) ∧ (l = [] → b = true) ∧ (Op.eqFields (d + 1) (pre ++ xs).toArray (pre2 ++ ys).toArray fs).run P w = .ok b w
  | o, [], l, m, pre, xs, ys, pre2, h, h1, h2, hx, hy => by
    cases l with
    | nil => exact ⟨true, .inl rfl, fun _ => rfl, rfl⟩
    | cons c l =>
      cases m <;> simp [plainS.go] at h
  | o, f :: fs, l, m, pre, xs, ys, pre2, h, h1, h2, hx, hy => by
    cases hx with
    | nil => cases m <;> simp [plainS.go] at h
    | @cons c v l xs hc hx =>
    cases hy with
    | nil => cases c <;> simp [plainS.go] at h
    | @cons c' v' m ys hc' hy =>
    have key : ∀ (e : Bool) (hn : f.name ≠ "_") (ho : f.offset = o) (inf : TypeInfo) (dd : TypeDesc) (hi : P.info? f.type = some inf) (hu : P.underlying f.type = some dd) (hd : aggD dd = false)
        (he : (Op.equalIn (d + 1) f.type v v').run P w = .ok e w) (hgo : plainS.go P (o + 1) fs l m = true) (hq : ∀ b, eqL l m = some b → eqL (c :: l) (c' :: m) = some (e && b)) (hq0 : l = [] → m = [] → eqL (c :: l) (c' :: m) = some e),
        ∃ b, (c :: l = [] ∨ eqL (c :: l) (c' :: m) = some b) ∧ (c :: l = [] → b = true) ∧ (Op.eqFields (d + 1) (pre ++ v :: xs).toArray (pre2 ++ v' :: ys).toArray (f :: fs)).run P w = .ok b w := by
      intro e hn ho inf dd hi hu hd he hgo hq hq0
      obtain ⟨b, hb1, hb2, hb3⟩ := plainS_go_len P d (o + 1) fs l m (pre ++ [v]) xs ys (pre2 ++ [v']) hgo (by simp [h1]) (by simp [h2]) hx hy
      have g1 : (part f.type (pre ++ v :: xs).toArray f.offset).run P w = .ok v w := by
        rw [run_part hi hu, if_neg (by rw [hd]; decide), ho, ← h1]; simp
      have g2 : (part f.type (pre2 ++ v' :: ys).toArray f.offset).run P w = .ok v' w := by
        rw [run_part hi hu, if_neg (by rw [hd]; decide), ho, ← h2]; simp
      refine ⟨e && b, .inr ?_, fun h => by simp at h, ?_⟩
      · rcases hb1 with rfl | hb1
        · cases m with
          | nil =>
            have := hb2 rfl
            subst this
            rw [hq0 rfl rfl, Bool.and_true]
          | cons c m => cases fs <;> simp [plainS.go] at hgo
        · exact hq b hb1
      · simp only [Op.eqFields, hn, ne_eq, not_false_eq_true, if_true, Sem.run_bind, g1, g2, Result.andThen_ok, he]
        cases e
        · simp
        · simp only [Bool.not_true, Bool.false_eq_true, if_false, Bool.true_and]
          simpa using hb3
    have tInfo : ∀ dd, P.underlying f.type = some dd → ∃ inf, P.info? f.type = some inf := by
      intro dd h
      unfold Program.underlying at h
      cases hi : P.info? f.type with
      | none => rw [hi] at h; cases h
      | some inf => exact ⟨inf, rfl⟩
    cases c with
    | i k n =>
      cases c' with
      | i k' n' =>
        obtain rfl := hc
        obtain rfl := hc'
        simp only [plainS.go, Bool.and_eq_true] at h
        obtain ⟨⟨⟨g1, g2⟩, g3⟩, g4⟩ := h
        cases hu : P.underlying f.type with
        | none => rw [hu] at g1; cases g1
        | some dd =>
        rw [hu] at g1
        cases dd with
        | int k2 =>
          obtain rfl := of_decide_eq_true g1
          obtain ⟨inf, hi⟩ := tInfo _ hu
          refine key (n == n') (by simpa using g3) (Nat.eq_of_beq_eq_true g2) inf _ hi hu rfl (run_equalIn_int w d f.type k k2 n n' hu) g4 ?_ ?_
          · intro b hb
            cases l with
            | nil => cases m <;> simp [eqL] at hb
            | cons c l => cases m <;> simp [eqL, hb]
          · intro e1 e2; subst e1; subst e2; rfl
        | _ => cases g1
      | _ => simp [plainS.go] at h
    | b x =>
      cases c' with
      | b x' =>
        obtain rfl := hc
        obtain rfl := hc'
        simp only [plainS.go, Bool.and_eq_true] at h
        obtain ⟨⟨⟨g1, g2⟩, g3⟩, g4⟩ := h
        cases hu : P.underlying f.type with
        | none => rw [hu] at g1; cases g1
        | some dd =>
        rw [hu] at g1
        cases dd with
        | bool =>
          obtain ⟨inf, hi⟩ := tInfo _ hu
          refine key (x == x') (by simpa using g3) (Nat.eq_of_beq_eq_true g2) inf _ hi hu rfl (run_equalIn_bool' w d f.type x x' hu) g4 ?_ ?_
          · intro b hb
            cases l with
            | nil => cases m <;> simp [eqL] at hb
            | cons c l => cases m <;> simp [eqL, hb]
          · intro e1 e2; subst e1; subst e2; rfl
        | _ => cases g1
      | _ => simp [plainS.go] at h
    | _ => simp [plainS.go] at h
theorem run_structEq {T : Nat → Prop} {op : BinOp} {t : TypeId} {l m : List SC} {xs ys : List Value} (hp : plainS P t l m = true) (hx : All2 (RepC w T r) l xs) (hy : All2 (RepC w T r) m ys) {b : Bool} (hb : eqL l m = some b) {c : SC} (hc : eqOp op b = some c) (x y : Operand) :
    ∃ u, (do eqGuard op t x y (.agg xs.toArray) (.agg ys.toArray); binOp op t (.agg xs.toArray) (.agg ys.toArray) : Sem Value).run P w = .ok u w ∧ RepC w T r c u := by
  unfold plainS at hp
  cases ht : P.underlying t with
  | none => rw [ht] at hp; cases hp
  | some dd =>
  rw [ht] at hp
  cases dd with
  | struct fs =>
    simp only [Bool.and_eq_true, Bool.not_eq_true'] at hp
    obtain ⟨⟨h1, h2⟩, h3⟩ := hp
    have hfs : P.fieldsOf t = fs := by unfold Program.fieldsOf; rw [ht]
    obtain ⟨b', hb1, _, hb3⟩ := plainS_go_len P 9998 0 fs.toList l m [] xs ys [] h3 rfl rfl hx hy
    have hbb : b' = b := by
      rcases hb1 with rfl | hb1
      · cases m <;> simp [eqL] at hb
      · rw [hb] at hb1; exact (Option.some.inj hb1).symm
    subst hbb
    have heq : (Op.equalIn 10000 t (.agg xs.toArray) (.agg ys.toArray)).run P w = .ok b' w := by
      rw [run_equalIn_struct w 9999 t _ _ (by rw [hfs]; exact ht) h1, hfs]
      exact hb3
    cases op with
    | eql =>
      obtain rfl := Option.some.inj hc
      refine ⟨.bool b', ?_, rfl⟩
      simp only [Sem.run_bind, run_eqGuard_agg w .eql t x y _ _ h2, Result.andThen_ok, run_eql_struct, heq]
    | neq =>
      obtain rfl := Option.some.inj hc
      refine ⟨.bool (!b'), ?_, rfl⟩
      simp only [Sem.run_bind, run_eqGuard_agg w .neq t x y _ _ h2, Result.andThen_ok, run_neq_struct, heq]
    | _ => cases hc
  | _ => cases hp
theorem run_float {op : BinOp} {k : FloatKind} {x y : Nat} (t : TypeId) : (∀ b, flCmp op k x y = some b → (binOp op t (.float k x) (.float k y)).run P w = .ok (.bool b) w) ∧
    (∀ q r', flCmp op k x y = none → flBin op k x y = some q → q = some r' → (binOp op t (.float k x) (.float k y)).run P w = .ok (.float k r') w) := by
  constructor
  · intro b h
    cases op <;> simp [flCmp] at h <;> subst h <;> simp [binOp, Op.floatCmp]
  · intro q r' _ h e
    subst e
    cases op <;> simp [flBin] at h <;> simp [binOp, Op.floatArith, h]
theorem eff_bin {t : TypeId} {op : BinOp} {x y z : PV} {v u : Value} {T : Nat → Prop} (hx : RepV w T r x v) (hy : RepV w T r y u) {an an' : List Ans} {ps : List Prop} (he : effBin P op t x y an = some (z, ps, an')) (hp : allP ps) (ox oy : Operand) :
    ∃ q, (do eqGuard op t ox oy v u; binOp op t v u : Sem Value).run P w = .ok q w ∧ RepV w T r z q := by
  unfold effBin at he
  split at he
  · rename_i k m kk n
    obtain rfl := hx
    obtain rfl := hy
    cases hk : (shiftOp op || decide (k = kk)) with
    | false => rw [hk] at he; cases he
    | true =>
      rw [hk] at he
      obtain ⟨rfl, rfl, rfl⟩ : PV.s (effInt op k m n).1 = z ∧ (effInt op k m n).2 = ps ∧ an = an' := by simpa using he
      obtain ⟨q, h1, h2⟩ := run_int (P := P) (w := w) (r := r) op k t m n kk hk hp
      refine ⟨q, ?_, h2 T⟩
      simp only [Sem.run_bind, eqGuard_int, Result.andThen_ok, h1]
  · rename_i m n
    obtain rfl := hx
    obtain rfl := hy
    split at he
    · rename_i ht
      split at he
      · obtain ⟨rfl, rfl, rfl⟩ : PV.s (SC.b (m == n)) = z ∧ [] = ps ∧ an = an' := by simpa using he
        refine ⟨_, ?_, rfl⟩
        simp only [Sem.run_bind, eqGuard_bool, Result.andThen_ok, run_eql_bool w t m n ht]
      · obtain ⟨rfl, rfl, rfl⟩ : PV.s (SC.b (m != n)) = z ∧ [] = ps ∧ an = an' := by simpa using he
        refine ⟨.bool (m != n), ?_, rfl⟩
        simp only [Sem.run_bind, eqGuard_bool, Result.andThen_ok, run_neq_bool w t m n ht]
        rfl
      · cases he
    · cases he
  · rename_i l m
    obtain ⟨xs, rfl, hx⟩ := hx
    obtain ⟨ys, rfl, hy⟩ := hy
    split at he
    · rename_i hpl
      split at he
      · rename_i b hb
        split at he
        · rename_i c hc
          obtain ⟨rfl, rfl, rfl⟩ : PV.s c = z ∧ [] = ps ∧ an = an' := by simpa using he
          obtain ⟨q, h1, h2⟩ := run_structEq (P := P) hpl hx hy hb hc ox oy
          exact ⟨q, h1, h2⟩
        · cases he
      · cases he
    · cases he
  · rename_i k m kk n
    obtain rfl := hx
    obtain rfl := hy
    split at he
    · rename_i hk
      obtain rfl : k = kk := of_decide_eq_true hk
      split at he
      · rename_i b hb
        obtain ⟨rfl, rfl, rfl⟩ : PV.s (SC.b b) = z ∧ [] = ps ∧ an = an' := by simpa using he
        refine ⟨_, ?_, rfl⟩
        simp only [Sem.run_bind, eqGuard_float, Result.andThen_ok, (run_float (P := P) (w := w) t).1 b hb]
      · rename_i hb
        split at he
        · rename_i q _ r' an1 hq
          obtain ⟨rfl, rfl, rfl⟩ : PV.s (SC.fl k r') = z ∧ [q = some r'] = ps ∧ an1 = an' := by simpa using he
          refine ⟨_, ?_, rfl⟩
          simp only [Sem.run_bind, eqGuard_float, Result.andThen_ok, (run_float (P := P) (w := w) t).2 q r' hb hq hp.1]
        · cases he
    · cases he
  · cases he
theorem eff_un {op : UnOp} {x z : PV} {v : Value} {T : Nat → Prop} (hx : RepV w T r x v) (he : effUn op x = some z) : ∃ q, (Op.unary op v).run P w = .ok q w ∧ RepV w T r z q := by
  unfold effUn at he
  split at he
  · obtain rfl := hx
    obtain rfl := Option.some.inj he
    refine ⟨_, ?_, rfl⟩
    simp [Op.unary, Op.intArith, wr_eq]
  · obtain rfl := hx
    obtain rfl := Option.some.inj he
    exact ⟨_, by simp [Op.unary], rfl⟩
  · obtain rfl := hx
    obtain rfl := Option.some.inj he
    refine ⟨_, ?_, rfl⟩
    simp [Op.unary, Op.intBits, Go.bits]
  · obtain rfl := hx
    obtain rfl := Option.some.inj he
    exact ⟨_, by simp [Op.unary], rfl⟩
  · cases he
theorem eff_conv {s d : TypeId} {x z : PV} {v : Value} {T : Nat → Prop} (hx : RepV w T r x v) (he : effConv P s d x = some z) : ∃ q, (convert s d v).run P w = .ok q w ∧ RepV w T r z q := by
  unfold effConv at he
  split at he
  · rename_i k hs hd
    split at he
    · obtain rfl := hx
      obtain rfl := Option.some.inj he
      refine ⟨_, ?_, rfl⟩
      simp [convert, run_underlying hs, run_underlying hd, Conv.intToInt, wr_eq]
    · cases he
  · cases he
theorem eff_index {t : TypeId} {x y z : PV} {v u : Value} {T : Nat → Prop} (hx : RepV w T r x v) (hy : RepV w T r y u) {ps : List Prop} (he : effIndex P t x y = some (z, ps)) (hp : allP ps) : ∃ q, (Instr.indexAt t v u).run P w = .ok q w ∧ RepV w T r z q := by
  unfold effIndex at he
  split at he
  · rename_i el ht
    split at he
    · rename_i inf k l k' n hi
      obtain ⟨A, c, rfl, hc, hs⟩ := hx
      obtain rfl := hy
      cases hz : Nat.beq inf.size 1 with
      | false => rw [hz] at he; cases he
      | true =>
        rw [hz] at he
        obtain ⟨rfl, rfl⟩ : PV.s (.ep k (rd l n)) = z ∧ [0 ≤ n, n < (l.length : Int)] = ps := by simpa using he
        obtain ⟨h0, h1, _⟩ := hp
        have h1' := Nat.eq_of_beq_eq_true hz
        have hlt : n.toNat < l.length := by omega
        rcases hs with rfl | ⟨b, o, rfl, hT, hcell⟩
        · simp at hlt
        · have hcl := hcell n.toNat _ (List.getElem?_eq_getElem hlt)
          refine ⟨.pointer (some ⟨b, o + n.toNat, none⟩), ?_, b, o + n.toNat, rfl, hT.1, ?_⟩
          · simp [Instr.indexAt, asIntOf, run_underlying ht, h0, h1, run_sizeOf hi, h1', add_plain]
          · rw [hcl]
            unfold rd
            rw [List.getD_eq_getElem?_getD, List.getElem?_eq_getElem hlt]; rfl
    · cases he
  · cases he
theorem eff_len {ts : Array TypeId} {t : TypeId} {xs : List PV} {vs : List Value} {z : PV} {T : Nat → Prop} (hx : All2 (RepV w T r) xs vs) (he : effLen P ts xs = some z) : ∃ q, (Builtin.len_ ts t vs.toArray).run P w = .ok q w ∧ RepV w T r z q := by
  unfold effLen at he
  split at he
  · rename_i t' k l hts
    cases hx with
    | cons h1 h2 =>
    cases h2
    split at he
    · rename_i el hu
      obtain rfl := Option.some.inj he
      obtain ⟨A, c, rfl, _, _⟩ := h1
      refine ⟨_, ?_, rfl⟩
      simp [Builtin.len_, hts, run_underlying hu, goInt]
    · cases he
  · cases he
theorem eff_extract {x z : PV} {i : Nat} {v : Value} {T : Nat → Prop} (hx : RepV w T r x v) (he : effExtract x i = some z) : ∃ q, (Instr.extract v i).run P w = .ok q w ∧ RepV w T r z q := by
  unfold effExtract at he
  split at he
  · rename_i l
    obtain ⟨vs, rfl, hl⟩ := hx
    split at he
    · rename_i p hp
      obtain rfl := Option.some.inj he
      obtain ⟨q, hq, hr⟩ := hl.get hp
      refine ⟨q, ?_, ?_⟩
      · simp [Instr.extract, hq]
      · cases p <;> exact hr
    · cases he
  · cases he
end
end Go.Proofs.YtelfmddcjlocpaaGreatDoor.Px
end
