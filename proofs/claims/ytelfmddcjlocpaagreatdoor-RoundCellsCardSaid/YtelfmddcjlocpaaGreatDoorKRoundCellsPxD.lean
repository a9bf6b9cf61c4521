/- Px, fourth part: each operation does on memory what 'eff' says. No condition. -/
import Derived.Test.YtelfmddcjlocpaaGreatDoorKRoundCellsPxC
import Derived.Laws.Rows
import Derived.Laws.StructEq
set_option linter.unusedVariables false
set_option linter.unusedSimpArgs false
namespace Go.Proofs.YtelfmddcjlocpaaGreatDoor.Px
open Go Go.RowKit Go.Proofs.YtelfmddcjlocpaaGreatDoorW.PrintWords Go.Proofs.YtelfmddcjlocpaaGreatDoorW.PrintMore
def allP : List Prop → Prop
 | [] => True
 | p :: l => p ∧ allP l
theorem allP_append {l m : List Prop} : allP (l ++ m) ↔ allP l ∧ allP m := by
 induction l with
 | nil => simp [allP]
 | cons p l ih => simp [allP, ih, and_assoc]
theorem conj_iff {l : List Prop} {q : Prop} : conj l q ↔ allP l ∧ q := by
 induction l with
 | nil => simp [allP, conj]
 | cons p l ih =>
  show (p ∧ conj l q) ↔ _
  simp [allP, ih, and_assoc]
theorem Below.lt {B : Nat} {w w' : World} (h : Below B w w') {b : Nat} {x : Obj} (hb : b < B) (hx : w.heap[b]? = some x) : w'.heap[b]? = some x := by rw [h.block b hb]; exact hx
theorem lt_of_heap {w : World} {b : Nat} {x : Obj} (h : w.heap[b]? = some x) : b < w.heap.size := by
 rcases Nat.lt_or_ge b w.heap.size with c | c
 ·exact c
 ·rw [Array.getElem?_eq_none c] at h; cases h
section
variable {P : Program} {W : World} {S : Nat → Prop} {r : Nat → Option Nat} {st : St} {a : Act} {w w' : World}
theorem ext_below (h : Below w.heap.size w w') (T : Nat → Prop) (r : Nat → Option Nat) : Ext w w' T T r r :=
 ⟨fun b x _ hx => Below.lt h (lt_of_heap hx) hx, fun _ _ h _ => h, fun _ _ h => h⟩
theorem Rp.grow (h : Rp W S r st a w) (hb : Below w.heap.size w w') : Rp W S r st a w' where
 defers := h.defers
 below := h.below.trans (hb.mono h.below.size)
 inj := h.inj
 dom := fun i b hi => by
  obtain ⟨h1, ty, l, vs, h2, h3, h4⟩ := h.dom i b hi
  exact ⟨h1, ty, l, vs, h2, Below.lt hb (lt_of_heap h3) h3, h4.mono fun _ _ => RepC.ext (ext_below hb _ _)⟩
 mem := h.mem
 size := h.size
 tmp := fun i => RepV.ext (ext_below hb _ _) (h.tmp i)
theorem put_tmps (a : Act) (d : Option Tmp) (v : Value) (i : Nat) : (a.put d v).tmps.getD i undef = if d = some i ∧ i < a.tmps.size then v else a.tmps.getD i undef := by
 cases d with
 | none => simp [Act.put]
 | some d =>
  simp only [Act.put, Array.getD_eq_getD_getElem?, Array.getElem?_setIfInBounds, Option.some.injEq]
  by_cases h : d = i
  ·subst h
   by_cases h2 : d < a.tmps.size
   ·simp [h2]
   ·simp [h2]
  ·simp [h]
theorem put_size (a : Act) (d : Option Tmp) (v : Value) : (a.put d v).tmps.size = a.tmps.size := by cases d <;> simp [Act.put]
theorem put_defers (a : Act) (d : Option Tmp) (v : Value) : (a.put d v).defers = a.defers := by cases d <;> rfl
theorem Rp.put (h : Rp W S r st a w) (d : Option Nat) {x : PV} {v : Value} (hv : RepV w (Sr S r) r x v) : Rp W S r (st.put d x) (a.put d v) w where
 defers := (put_defers a d v).trans h.defers
 below := h.below
 inj := h.inj
 dom := fun i b hi => by rw [gm_put]; exact h.dom i b hi
 mem := fun i y hi => h.mem i y (by rwa [gm_put] at hi)
 size := by rw [put_size, len_put, h.size]
 tmp := fun i => by
  rw [gt_put, put_tmps, h.size]
  split
  ·exact hv
  ·exact h.tmp i
theorem Rp.new (h : Rp W S r st a w) (hS : ∀ b, S b → b < W.heap.size) {n : Nat} (hn : st.gm n = none) {ty : TypeId} {l : List SC} {vs : List Value} (hl : All2 (RepC w (Sr S r) r) l vs) :
  ∃ r', (∀ i b, r i = some b → r' i = some b) ∧ r' n = some w.heap.size ∧ Rp W S r' { st with m := putM st.m n (some (ty, l)) } a (w.alloc (.cells vs.toArray ty (0, 0))) := by
 have hr : r n = none := by
  cases hb : r n with
  | none => rfl
  | some b =>
   obtain ⟨_, ty, l, vs, h2, _⟩ := h.dom n b hb
   rw [hn] at h2; cases h2
 let r' : Nat → Option Nat := fun i => if i = n then some w.heap.size else r i
 have hrr : ∀ i b, r i = some b → r' i = some b := fun i b hi => by
  show (if i = n then _ else _) = _
  rw [if_neg]; exact hi
  intro e; subst e; rw [hr] at hi; cases hi
 have hr'n : r' n = some w.heap.size := if_pos rfl
 have hlt : ∀ i b, r i = some b → b < w.heap.size := fun i b hi => by
  obtain ⟨_, ty, l, vs, _, h3, _⟩ := h.dom i b hi
  exact lt_of_heap h3
 have hold : ∀ (b : Nat) (x : Obj), w.heap[b]? = some x → (w.alloc (.cells vs.toArray ty (0, 0))).heap[b]? = some x := fun b x hx => by
  rw [Below.heap_alloc _ _ _ (lt_of_heap hx)]; exact hx
 have hnew : (w.alloc (.cells vs.toArray ty (0, 0))).heap[w.heap.size]? = some (.cells vs.toArray ty (0, 0)) := by
  show (w.heap.push _)[w.heap.size]? = _
  simp
 have x : Ext w (w.alloc (.cells vs.toArray ty (0, 0))) (Sr S r) (Sr S r') r r' := ⟨fun b y _ hy => hold b y hy, fun b y hb hy => by
  rcases hb with hb | ⟨i, hi⟩
  ·exact .inl hb
  ·by_cases e : i = n
   ·subst e
    rw [hr'n] at hi
    obtain rfl := Option.some.inj hi
    exact absurd (lt_of_heap hy) (Nat.lt_irrefl _)
   ·exact .inr ⟨i, by simpa [r', e] using hi⟩, hrr⟩
 have hgm : ∀ i, ({ st with m := putM st.m n (some (ty, l)) } : St).gm i = if i = n then some (ty, l) else st.gm i := fun i => putM_get st.m n i _
 refine ⟨r', hrr, hr'n, ⟨h.defers, h.below.alloc h.below.size _, ?_, ?_, ?_, h.size, fun i => RepV.ext x (h.tmp i)⟩⟩
 ·intro i j b hi hj
  by_cases e : i = n
  ·subst e
   rw [hr'n] at hi
   obtain rfl := Option.some.inj hi
   by_cases e2 : j = i
   ·exact e2.symm
   ·have : r j = some w.heap.size := by simpa [r', e2] using hj
    exact absurd (hlt _ _ this) (Nat.lt_irrefl _)
  ·have hi' : r i = some b := by simpa [r', e] using hi
   by_cases e2 : j = n
   ·subst e2
    rw [hr'n] at hj
    obtain rfl := Option.some.inj hj
    exact absurd (hlt _ _ hi') (Nat.lt_irrefl _)
   ·exact h.inj i j b hi' (by simpa [r', e2] using hj)
 ·intro i b hi
  by_cases e : i = n
  ·subst e
   rw [hr'n] at hi
   obtain rfl := Option.some.inj hi
   exact ⟨h.below.size, ty, l, vs, by rw [hgm, if_pos rfl], hnew, hl.mono fun _ _ => RepC.ext x⟩
  ·obtain ⟨h1, ty', l', vs', h2, h3, h4⟩ := h.dom i b (by simpa [r', e] using hi)
   exact ⟨h1, ty', l', vs', by rw [hgm, if_neg e]; exact h2, hold b _ h3, h4.mono fun _ _ => RepC.ext x⟩
 ·intro i y hi
  rw [hgm] at hi
  by_cases e : i = n
  ·subst e; exact ⟨_, hr'n⟩
  ·rw [if_neg e] at hi
   obtain ⟨b, hb⟩ := h.mem i y hi
   exact ⟨b, hrr i b hb⟩
theorem Rp.sto (h : Rp W S r st a w) {n b : Nat} (hb : r n = some b) {ty : TypeId} {l0 l : List SC} {vs0 vs : List Value} {off : Nat} (hg : st.gm n = some (ty, l0)) (hw : w.heap[b]? = some (.cells vs0.toArray ty (0, 0)))
  (hl0 : All2 (RepC w (Sr S r) r) l0 vs0) (hl : All2 (RepC w (Sr S r) r) l vs) (hw' : w' = { w with heap := w.heap.setIfInBounds b (.cells (spliceV vs0 off vs).toArray ty (0, 0)) }) :
  Rp W S r { st with m := putM st.m n (some (ty, splice l0 off l)) } a w' := by
 have hlt := lt_of_heap hw
 have hB : W.heap.size ≤ b := (h.dom n b hb).1
 have hh : ∀ c, w'.heap[c]? = if c = b then some (.cells (spliceV vs0 off vs).toArray ty (0, 0)) else w.heap[c]? := fun c => by
  subst hw'
  show (w.heap.setIfInBounds b _)[c]? = _
  rw [Array.getElem?_setIfInBounds]
  by_cases e : c = b
  ·subst e; simp [hlt]
  ·rw [if_neg (fun e' => e e'.symm), if_neg e]
 have x : Ext w w' (Sr S r) (Sr S r) r r := ⟨fun c y hc hy => by
  rw [hh, if_neg]; exact hy
  intro e; subst e; exact hc (.inr ⟨n, hb⟩), fun _ _ h _ => h, fun _ _ h => h⟩
 have hgm : ∀ i, ({ st with m := putM st.m n (some (ty, splice l0 off l)) } : St).gm i = if i = n then some (ty, splice l0 off l) else st.gm i := fun i => putM_get st.m n i _
 refine ⟨h.defers, ?_, h.inj, ?_, ?_, h.size, fun i => RepV.ext x (h.tmp i)⟩
 ·refine h.below.trans ⟨by rw [hw'], by rw [hw'], by rw [hw'], by rw [hw']; simp, fun k hk => ?_⟩
  rw [hh, if_neg (by omega)]
 ·intro i c hi
  obtain ⟨h1, ty', l', vs', h2, h3, h4⟩ := h.dom i c hi
  by_cases e : i = n
  ·subst e
   rw [hb] at hi
   obtain rfl := Option.some.inj hi
   exact ⟨h1, ty, _, _, by rw [hgm, if_pos rfl], by rw [hh, if_pos rfl], (hl0.splice off hl).mono fun _ _ => RepC.ext x⟩
  ·refine ⟨h1, ty', l', vs', by rw [hgm, if_neg e]; exact h2, ?_, h4.mono fun _ _ => RepC.ext x⟩
   rw [hh, if_neg]; exact h3
   intro e2; subst e2; exact e (h.inj i n _ hi hb)
 ·intro i y hi
  rw [hgm] at hi
  by_cases e : i = n
  ·subst e; exact ⟨b, hb⟩
  ·rw [if_neg e] at hi; exact h.mem i y hi
def Nxt (W : World) (S : Nat → Prop) (r : Nat → Option Nat) (st' : St) (a' : Act) (w' : World) : Prop := ∃ r', (∀ i b, r i = some b → r' i = some b) ∧ Rp W S r' st' a' w'
theorem wp_val (h : Rp W S r st a w) {o : Oper} {v : Value} {x : PV} {Q : Exit → Act → World → Prop} (he : (execOp a.eval o).run P w = .ok (.value v) w') (hb : Below w.heap.size w w') (hv : RepV w' (Sr S r) r x v) :
  o.wp P a w (Nxt W S r (app o.dst (.v x) st)) Q := by
 unfold Oper.wp
 rw [he, Oper.upon_value]
 exact ⟨r, fun _ _ h => h, (h.grow hb).put o.dst hv⟩
theorem wp_pure (h : Rp W S r st a w) {o : Oper} {v : Value} {x : PV} {Q : Exit → Act → World → Prop} (he : (execOp a.eval o).run P w = .ok (.value v) w) (hv : RepV w (Sr S r) r x v) :
  o.wp P a w (Nxt W S r (app o.dst (.v x) st)) Q := wp_val h he (Below.refl _ _) hv
end
end Go.Proofs.YtelfmddcjlocpaaGreatDoor.Px
