/- Px, third part: values in worlds that grow; the state's getters. Plain lemmas. No condition. Px, fourth part: each operation does on memory what 'eff' says. No condition. -/
import Derived.Test.YtelfmddcjlocpaaGreatDoorKRoundQuotedPxB
import Derived.Laws.Rows
import Derived.Laws.StructEq
section
set_option linter.unusedVariables false
set_option linter.unusedSimpArgs false
namespace Go.Proofs.YtelfmddcjlocpaaGreatDoor.Px
open Go Go.RowKit
section
variable {α β γ : Type} {R R' : α → β → Prop}
theorem All2.len {l : List α} {m : List β} (h : All2 R l m) : l.length = m.length := by
  induction h with
  | nil => rfl
  | cons _ _ ih => simp [ih]
theorem All2.mono (hr : ∀ a b, R a b → R' a b) {l : List α} {m : List β} (h : All2 R l m) : All2 R' l m := by
  induction h with
  | nil => exact .nil
  | cons h _ ih => exact .cons (hr _ _ h) ih
theorem All2.mono' {l : List α} {m : List β} (h : All2 R l m) (hr : ∀ a ∈ l, ∀ b, R a b → R' a b) : All2 R' l m := by
  induction h with
  | nil => exact .nil
  | cons h _ ih => exact .cons (hr _ (List.mem_cons_self ..) _ h) (ih fun a ha => hr a (List.mem_cons_of_mem _ ha))
theorem All2.get {l : List α} {m : List β} (h : All2 R l m) : ∀ {i : Nat} {a : α}, l[i]? = some a → ∃ b, m[i]? = some b ∧ R a b := by
  induction h with
  | nil => intro i a h; simp at h
  | cons h _ ih =>
    intro i a hi
    cases i with
    | zero => simp at hi; subst hi; exact ⟨_, by simp, h⟩
    | succ i => simpa using ih (by simpa using hi)
theorem All2.drop {l : List α} {m : List β} (h : All2 R l m) : ∀ n, All2 R (l.drop n) (m.drop n) := by
  induction h with
  | nil => intro n; simp; exact .nil
  | cons h t ih =>
    intro n
    cases n with
    | zero => exact .cons h t
    | succ n => exact ih n
theorem All2.take {l : List α} {m : List β} (h : All2 R l m) : ∀ n, All2 R (l.take n) (m.take n) := by
  induction h with
  | nil => intro n; simp; exact .nil
  | cons h t ih =>
    intro n
    cases n with
    | zero => exact .nil
    | succ n => exact .cons h (ih n)
theorem All2.map {f : γ → α} {g : γ → β} : ∀ {l : List γ}, (∀ x ∈ l, R (f x) (g x)) → All2 R (l.map f) (l.map g)
  | [], _ => .nil
  | x :: l, h => .cons (h x (List.mem_cons_self ..)) (All2.map fun y hy => h y (List.mem_cons_of_mem _ hy))
theorem All2.map_l {δ : Type} {f : α → δ} {R' : δ → β → Prop} {l : List α} {m : List β} (h : All2 R l m) (hr : ∀ a ∈ l, ∀ b, R a b → R' (f a) b) : All2 R' (l.map f) m := by
  induction h with
  | nil => exact .nil
  | cons h _ ih => exact .cons (hr _ (List.mem_cons_self ..) _ h) (ih fun a ha => hr a (List.mem_cons_of_mem _ ha))
end
def spliceV : List Value → Nat → List Value → List Value
  | l, 0, [] => l
  | _ :: t, 0, y :: l => y :: spliceV t 0 l
  | x :: t, n + 1, l => x :: spliceV t n l
  | [], _, _ => []
theorem All2.splice {R : SC → Value → Prop} : ∀ {l : List SC} {m : List Value}, All2 R l m → ∀ (n : Nat) {k : List SC} {j : List Value}, All2 R k j → All2 R (splice l n k) (spliceV m n j)
  | _, _, .nil, n, _, _, hk => by cases n <;> cases hk <;> exact .nil
  | _, _, .cons h t, 0, _, _, .nil => .cons h t
  | _, _, .cons _ t, 0, _, _, .cons h' t' => .cons h' (All2.splice t 0 t')
  | _, _, .cons h t, n + 1, _, _, hk => .cons h (All2.splice t n hk)
theorem putM_get {α : Type} : ∀ (m : List (Option α)) (i j : Nat) (x : Option α), (putM m i x).getD j none = if j = i then x else m.getD j none
  | [], 0, j, x => by
    cases j with
    | zero => simp [putM]
    | succ j => simp [putM]
  | [], i + 1, j, x => by
    cases j with
    | zero => simp [putM]
    | succ j =>
      have := putM_get [] i j x
      simp only [putM, List.getD_cons_succ, this, Nat.add_right_cancel_iff]
      simp
  | y :: l, 0, j, x => by
    cases j with
    | zero => simp [putM]
    | succ j => simp [putM]
  | y :: l, i + 1, j, x => by
    cases j with
    | zero => simp [putM]
    | succ j =>
      have := putM_get l i j x
      simp only [putM, List.getD_cons_succ, this, Nat.add_right_cancel_iff]
theorem gm_put (st : St) (d : Option Nat) (v : PV) (b : Nat) : (st.put d v).gm b = st.gm b := by cases d <;> rfl
theorem len_put (st : St) (d : Option Nat) (v : PV) : (st.put d v).t.length = st.t.length := by
  cases d
  · rfl
  · simp [St.put]
theorem gt_put (st : St) (d : Option Nat) (v : PV) (i : Nat) : (st.put d v).gt i = if d = some i ∧ i < st.t.length then v else st.gt i := by
  cases d with
  | none => simp [St.put]
  | some d =>
    simp only [St.put, St.gt, List.getD_eq_getElem?_getD, List.getElem?_set, Option.some.injEq]
    by_cases h : d = i
    · subst h
      by_cases h2 : d < st.t.length
      · simp [h2]
      · simp [h2]
    · simp [h]
def E.val : E → PV
  | .v x => x
  | .nb b _ _ => .s (.lo b 0)
  | .sto _ _ _ => .s .un
theorem gt_app (d : Option Nat) (e : E) (st : St) (i : Nat) : (app d e st).gt i = if d = some i ∧ i < st.t.length then e.val else st.gt i := by
  cases e with
  | v x => exact gt_put st d x i
  | nb b ty l => exact gt_put { st with m := _ } d _ i
  | sto b off l =>
    simp only [app]
    cases st.gm b with
    | none => exact gt_put st d _ i
    | some x => exact gt_put { st with m := _ } d _ i
theorem len_app (d : Option Nat) (e : E) (st : St) : (app d e st).t.length = st.t.length := by
  cases e with
  | v x => exact len_put st d x
  | nb b ty l => exact len_put { st with m := _ } d _
  | sto b off l =>
    simp only [app]
    cases st.gm b with
    | none => exact len_put st d _
    | some x => exact len_put { st with m := _ } d _
def E.upd (e : E) (b : Nat) (x : Option (TypeId × List SC)) : Option (TypeId × List SC) :=
  match e with
  | .v _ => x
  | .nb c ty l => if b = c then some (ty, l) else x
  | .sto c off l => if b = c then x.map fun y => (y.1, splice y.2 off l) else x
theorem gm_app (d : Option Nat) (e : E) (st : St) (b : Nat) : (app d e st).gm b = e.upd b (st.gm b) := by
  cases e with
  | v x => exact gm_put st d x b
  | nb c ty l =>
    simp only [app, E.upd]
    rw [gm_put]
    exact putM_get st.m c b _
  | sto c off l =>
    simp only [app, E.upd]
    cases h : st.gm c with
    | some x =>
      obtain ⟨ty, l0⟩ := x
      simp only
      rw [gm_put]
      refine (putM_get st.m c b _).trans ?_
      by_cases hb : b = c
      · subst hb; rw [if_pos rfl, if_pos rfl, h]; rfl
      · rw [if_neg hb, if_neg hb]; rfl
    | none =>
      simp only
      rw [gm_put]
      by_cases hb : b = c
      · subst hb; rw [if_pos rfl, h]; rfl
      · rw [if_neg hb]
structure Ext (w w' : World) (T T' : Nat → Prop) (r r' : Nat → Option Nat) : Prop where
  heap : ∀ b x, ¬ T b → w.heap[b]? = some x → w'.heap[b]? = some x
  set : ∀ b x, T' b → w.heap[b]? = some x → T b
  rho : ∀ i b, r i = some b → r' i = some b
theorem cell_heap {w w' : World} {b o : Nat} {v : Value} (h : w.cell? ⟨b, o, none⟩ = some v) : ∃ x, w.heap[b]? = some x ∧ (w'.heap[b]? = some x → w'.cell? ⟨b, o, none⟩ = some v) := by
  unfold World.cell? at h
  cases hx : w.heap[b]? with
  | none => rw [hx] at h; cases h
  | some x =>
    refine ⟨x, rfl, fun h' => ?_⟩
    unfold World.cell?
    rw [hx] at h
    rw [h']
    exact h
section
variable {w w' : World} {T T' : Nat → Prop} {r r' : Nat → Option Nat}
theorem SlR.ext (x : Ext w w' T T' r r') {k : IntKind} {A : Option Addr} {l : List Int} (h : SlR w T k A l) : SlR w' T' k A l := by
  rcases h with h | ⟨b, o, rfl, ht, hc⟩
  · exact .inl h
  · cases l with
    | nil => exact .inl rfl
    | cons d l =>
      obtain ⟨y, hy, _⟩ := cell_heap (w' := w') (hc 0 d rfl)
      refine .inr ⟨b, o, rfl, ⟨fun h' => ht.1 (x.set b y h' hy), ht.2⟩, fun j e hj => ?_⟩
      obtain ⟨z, hz, k⟩ := cell_heap (w' := w') (hc j e hj)
      exact k (x.heap b z ht.1 hz)
theorem RepI.ext (x : Ext w w' T T' r r') {c : IC} {v : Value} (h : RepI w T c v) : RepI w' T' c v := by
  cases c with
  | i k n => exact h
  | b y => exact h
  | sl k l => obtain ⟨A, c, h1, h2, h3⟩ := h; exact ⟨A, c, h1, h2, h3.ext x⟩
theorem RepC.ext (x : Ext w w' T T' r r') {c : SC} {v : Value} (h : RepC w T r c v) : RepC w' T' r' c v := by
  cases c with
  | i k n => exact h
  | b y => exact h
  | fl k n => exact h
  | sl k l => obtain ⟨A, c, h1, h2, h3⟩ := h; exact ⟨A, c, h1, h2, h3.ext x⟩
  | ep k n =>
    obtain ⟨b, o, h1, h2, h3⟩ := h
    obtain ⟨z, hz, k'⟩ := cell_heap (w' := w') h3
    exact ⟨b, o, h1, fun h' => h2 (x.set b z h' hz), k' (x.heap b z h2 hz)⟩
  | lo i o => obtain ⟨b, h1, h2⟩ := h; exact ⟨b, x.rho _ _ h1, h2⟩
  | ifc t l => obtain ⟨vs, h1, h2⟩ := h; exact ⟨vs, h1, h2.mono fun _ _ => RepI.ext x⟩
  | un => exact h
  | top => trivial
theorem RepP.ext (x : Ext w w' T T' r r') {c : P1} {v : Value} (h : RepP w T r c v) : RepP w' T' r' c v := by
  cases c with
  | s c => exact RepC.ext x h
  | ag l => obtain ⟨vs, h1, h2⟩ := h; exact ⟨vs, h1, h2.mono fun _ _ => RepC.ext x⟩
theorem RepV.ext (x : Ext w w' T T' r r') {c : PV} {v : Value} (h : RepV w T r c v) : RepV w' T' r' c v := by
  cases c with
  | s c => exact RepC.ext x h
  | ag l => obtain ⟨vs, h1, h2⟩ := h; exact ⟨vs, h1, h2.mono fun _ _ => RepC.ext x⟩
  | tu l => obtain ⟨vs, h1, h2⟩ := h; exact ⟨vs, h1, h2.mono fun _ _ => RepP.ext x⟩
theorem Ext.refl (w : World) (T : Nat → Prop) (r : Nat → Option Nat) : Ext w w T T r r := ⟨fun _ _ _ h => h, fun _ _ h _ => h, fun _ _ h => h⟩
theorem Ext.less (h : ∀ b, T' b → T b) : Ext w w T T' r r := ⟨fun _ _ _ h => h, fun _ _ h' _ => h _ h', fun _ _ h => h⟩
theorem RepC.clo {r' : Nat → Option Nat} {c : SC} {v : Value} (hc : c.clo = true) (h : RepC w T r c v) : RepC w T r' c v := by
  cases c <;> first | exact h | cases hc
theorem RepP.clo {r' : Nat → Option Nat} {c : P1} {v : Value} (hc : c.clo = true) (h : RepP w T r c v) : RepP w T r' c v := by
  cases c with
  | s c => exact RepC.clo hc h
  | ag l =>
    obtain ⟨vs, h1, h2⟩ := h
    exact ⟨vs, h1, h2.mono' fun a ha b hb => RepC.clo (List.all_eq_true.1 hc a ha) hb⟩
theorem RepV.clo {r' : Nat → Option Nat} {c : PV} {v : Value} (hc : c.clo = true) (h : RepV w T r c v) : RepV w T r' c v := by
  cases c with
  | s c => exact RepC.clo hc h
  | ag l =>
    obtain ⟨vs, h1, h2⟩ := h
    exact ⟨vs, h1, h2.mono' fun a ha b hb => RepC.clo (List.all_eq_true.1 hc a ha) hb⟩
  | tu l =>
    obtain ⟨vs, h1, h2⟩ := h
    exact ⟨vs, h1, h2.mono' fun a ha b hb => RepP.clo (List.all_eq_true.1 hc a ha) hb⟩
end
theorem icsc {w : World} {T : Nat → Prop} {r : Nat → Option Nat} {c : IC} {v : Value} (h : RepI w T c v) : RepC w T r c.sc v := by cases c <;> exact h
theorem toIC_ok {w : World} {T : Nat → Prop} {r : Nat → Option Nat} : ∀ {l : List SC} {m : List IC} {vs : List Value}, toIC l = some m → All2 (RepC w T r) l vs → All2 (RepI w T) m vs
  | [], m, _, h, .nil => by obtain rfl := Option.some.inj h; exact .nil
  | c :: l, m, _, h, .cons h1 h2 => by
    cases c <;> simp only [toIC] at h <;> first
      | (cases h; done)
      | (split at h
         · rename_i m' hm
           obtain rfl := Option.some.inj h
           exact .cons h1 (toIC_ok hm h2)
         · cases h)
theorem repC_ofC (w : World) (T : Nat → Prop) (r : Nat → Option Nat) (v : Value) : RepC w T r (ofC v) v := by
  unfold ofC
  split <;> first | rfl | trivial | exact ⟨none, 0, rfl, Nat.le_refl _, .inl rfl⟩
theorem repV_ofV (w : World) (T : Nat → Prop) (r : Nat → Option Nat) (v : Value) : RepV w T r (ofV v) v := by
  unfold ofV
  split
  · rename_i cs
    refine ⟨cs.toList, by simp, ?_⟩
    have := All2.map (R := RepC w T r) (f := ofC) (g := id) (l := cs.toList) fun x _ => repC_ofC w T r x
    simpa using this
  · exact repC_ofC w T r v
theorem rep_ev {W : World} {S : Nat → Prop} {r : Nat → Option Nat} {st : St} {a : Act} {w : World} (h : Rp W S r st a w) (x : Operand) : RepV w (Sr S r) r (st.ev x) (a.eval x) := by
  cases x with
  | tmp t => exact h.tmp t
  | const v => exact repV_ofV _ _ _ _
  | global g => trivial
  | func f => trivial
theorem rep_cells {w : World} {T : Nat → Prop} {r : Nat → Option Nat} {x : PV} {v : Value} (h : RepV w T r x v) (hf : x.cells.all SC.fit = true) : All2 (RepC w T r) x.cells v.cells.toList := by
  cases x with
  | ag l => obtain ⟨vs, rfl, h2⟩ := h; exact h2
  | tu l => cases hf
  | s c =>
    cases c with
    | i k n => obtain rfl := h; exact .cons rfl .nil
    | b y => obtain rfl := h; exact .cons rfl .nil
    | fl k n => obtain rfl := h; exact .cons rfl .nil
    | sl k l => obtain ⟨A, c, rfl, h2⟩ := h; exact .cons ⟨A, c, rfl, h2⟩ .nil
    | ep k n => obtain ⟨b, o, rfl, h2⟩ := h; exact .cons ⟨b, o, rfl, h2⟩ .nil
    | lo i o => obtain ⟨b, h1, rfl⟩ := h; exact .cons ⟨b, h1, rfl⟩ .nil
    | ifc t l => obtain ⟨vs, rfl, h2⟩ := h; exact .cons ⟨vs, rfl, h2⟩ .nil
    | un => cases hf
    | top => cases hf
end Go.Proofs.YtelfmddcjlocpaaGreatDoor.Px
end
section
set_option linter.unusedVariables false
set_option linter.unusedSimpArgs false
namespace Go.Proofs.YtelfmddcjlocpaaGreatDoor.Px
open Go Go.RowKit Go.Proofs.YtelfmddcjlocpaaGreatDoorW.PrintWords Go.Proofs.YtelfmddcjlocpaaGreatDoorW.PrintMore
def allP : List Prop → Prop
  | [] => True
  | p :: l => p ∧ allP l
theorem allP_append {l m : List Prop} : allP (l ++ m) ↔ allP l ∧ allP m := by
  induction l with
  | nil => simp [allP]
  | cons p l ih => simp [allP, ih, and_assoc]
theorem conj_iff {l : List Prop} {q : Prop} : conj l q ↔ allP l ∧ q := by
  induction l with
  | nil => simp [allP, conj]
  | cons p l ih =>
    show (p ∧ conj l q) ↔ _
    simp [allP, ih, and_assoc]
theorem Below.lt {B : Nat} {w w' : World} (h : Below B w w') {b : Nat} {x : Obj} (hb : b < B) (hx : w.heap[b]? = some x) : w'.heap[b]? = some x := by rw [h.block b hb]; exact hx
theorem lt_of_heap {w : World} {b : Nat} {x : Obj} (h : w.heap[b]? = some x) : b < w.heap.size := by
  rcases Nat.lt_or_ge b w.heap.size with c | c
  · exact c
  · rw [Array.getElem?_eq_none c] at h; cases h
section
variable {P : Program} {W : World} {S : Nat → Prop} {r : Nat → Option Nat} {st : St} {a : Act} {w w' : World}
theorem ext_below (h : Below w.heap.size w w') (T : Nat → Prop) (r : Nat → Option Nat) : Ext w w' T T r r :=
  ⟨fun b x _ hx => Below.lt h (lt_of_heap hx) hx, fun _ _ h _ => h, fun _ _ h => h⟩
theorem Rp.grow (h : Rp W S r st a w) (hb : Below w.heap.size w w') : Rp W S r st a w' where
  defers := h.defers
  below := h.below.trans (hb.mono h.below.size)
  inj := h.inj
  dom := fun i b hi => by
    obtain ⟨h1, ty, l, vs, h2, h3, h4⟩ := h.dom i b hi
    exact ⟨h1, ty, l, vs, h2, Below.lt hb (lt_of_heap h3) h3, h4.mono fun _ _ => RepC.ext (ext_below hb _ _)⟩
  mem := h.mem
  size := h.size
  tmp := fun i => RepV.ext (ext_below hb _ _) (h.tmp i)
theorem put_tmps (a : Act) (d : Option Tmp) (v : Value) (i : Nat) : (a.put d v).tmps.getD i undef = if d = some i ∧ i < a.tmps.size then v else a.tmps.getD i undef := by
  cases d with
  | none => simp [Act.put]
  | some d =>
    simp only [Act.put, Array.getD_eq_getD_getElem?, Array.getElem?_setIfInBounds, Option.some.injEq]
    by_cases h : d = i
    · subst h
      by_cases h2 : d < a.tmps.size
      · simp [h2]
      · simp [h2]
    · simp [h]
theorem put_size (a : Act) (d : Option Tmp) (v : Value) : (a.put d v).tmps.size = a.tmps.size := by cases d <;> simp [Act.put]
theorem put_defers (a : Act) (d : Option Tmp) (v : Value) : (a.put d v).defers = a.defers := by cases d <;> rfl
theorem Rp.put (h : Rp W S r st a w) (d : Option Nat) {x : PV} {v : Value} (hv : RepV w (Sr S r) r x v) : Rp W S r (st.put d x) (a.put d v) w where
  defers := (put_defers a d v).trans h.defers
  below := h.below
  inj := h.inj
  dom := fun i b hi => by rw [gm_put]; exact h.dom i b hi
  mem := fun i y hi => h.mem i y (by rwa [gm_put] at hi)
  size := by rw [put_size, len_put, h.size]
  tmp := fun i => by
    rw [gt_put, put_tmps, h.size]
    split
    · exact hv
    · exact h.tmp i
theorem Rp.new (h : Rp W S r st a w) (hS : ∀ b, S b → b < W.heap.size) {n : Nat} (hn : st.gm n = none) {ty : TypeId} {l : List SC} {vs : List Value} (hl : All2 (RepC w (Sr S r) r) l vs) :
    ∃ r', (∀ i b, r i = some b → r' i = some b) ∧ r' n = some w.heap.size ∧ Rp W S r' { st with m := putM st.m n (some (ty, l)) } a (w.alloc (.cells vs.toArray ty (0, 0))) := by
  have hr : r n = none := by
    cases hb : r n with
    | none => rfl
    | some b =>
      obtain ⟨_, ty, l, vs, h2, _⟩ := h.dom n b hb
      rw [hn] at h2; cases h2
  let r' : Nat → Option Nat := fun i => if i = n then some w.heap.size else r i
  have hrr : ∀ i b, r i = some b → r' i = some b := fun i b hi => by
    show (if i = n then _ else _) = _
    rw [if_neg]; exact hi
    intro e; subst e; rw [hr] at hi; cases hi
  have hr'n : r' n = some w.heap.size := if_pos rfl
  have hlt : ∀ i b, r i = some b → b < w.heap.size := fun i b hi => by
    obtain ⟨_, ty, l, vs, _, h3, _⟩ := h.dom i b hi
    exact lt_of_heap h3
  have hold : ∀ (b : Nat) (x : Obj), w.heap[b]? = some x → (w.alloc (.cells vs.toArray ty (0, 0))).heap[b]? = some x := fun b x hx => by
    rw [Below.heap_alloc _ _ _ (lt_of_heap hx)]; exact hx
  have hnew : (w.alloc (.cells vs.toArray ty (0, 0))).heap[w.heap.size]? = some (.cells vs.toArray ty (0, 0)) := by
    show (w.heap.push _)[w.heap.size]? = _
    simp
  have x : Ext w (w.alloc (.cells vs.toArray ty (0, 0))) (Sr S r) (Sr S r') r r' := ⟨fun b y _ hy => hold b y hy, fun b y hb hy => by
    rcases hb with hb | ⟨i, hi⟩
    · exact .inl hb
    · by_cases e : i = n
      · subst e
        rw [hr'n] at hi
        obtain rfl := Option.some.inj hi
        exact absurd (lt_of_heap hy) (Nat.lt_irrefl _)
      · exact .inr ⟨i, by simpa [r', e] using hi⟩, hrr⟩
  have hgm : ∀ i, ({ st with m := putM st.m n (some (ty, l)) } : St).gm i = if i = n then some (ty, l) else st.gm i := fun i => putM_get st.m n i _
  refine ⟨r', hrr, hr'n, ⟨h.defers, h.below.alloc h.below.size _, ?_, ?_, ?_, h.size, fun i => RepV.ext x (h.tmp i)⟩⟩
  · intro i j b hi hj
    by_cases e : i = n
    · subst e
      rw [hr'n] at hi
      obtain rfl := Option.some.inj hi
      by_cases e2 : j = i
      · exact e2.symm
      · have : r j = some w.heap.size := by simpa [r', e2] using hj
        exact absurd (hlt _ _ this) (Nat.lt_irrefl _)
    · have hi' : r i = some b := by simpa [r', e] using hi
      by_cases e2 : j = n
      · subst e2
        rw [hr'n] at hj
        obtain rfl := Option.some.inj hj
        exact absurd (hlt _ _ hi') (Nat.lt_irrefl _)
      · exact h.inj i j b hi' (by simpa [r', e2] using hj)
  · intro i b hi
    by_cases e : i = n
    · subst e
      rw [hr'n] at hi
      obtain rfl := Option.some.inj hi
      exact ⟨h.below.size, ty, l, vs, by rw [hgm, if_pos rfl], hnew, hl.mono fun _ _ => RepC.ext x⟩
    · obtain ⟨h1, ty', l', vs', h2, h3, h4⟩ := h.dom i b (by simpa [r', e] using hi)
      exact ⟨h1, ty', l', vs', by rw [hgm, if_neg e]; exact h2, hold b _ h3, h4.mono fun _ _ => RepC.ext x⟩
  · intro i y hi
    rw [hgm] at hi
    by_cases e : i = n
    · subst e; exact ⟨_, hr'n⟩
    · rw [if_neg e] at hi
      obtain ⟨b, hb⟩ := h.mem i y hi
      exact ⟨b, hrr i b hb⟩
theorem Rp.sto (h : Rp W S r st a w) {n b : Nat} (hb : r n = some b) {ty : TypeId} {l0 l : List SC} {vs0 vs : List Value} {off : Nat} (hg : st.gm n = some (ty, l0)) (hw : w.heap[b]? = some (.cells vs0.toArray ty (0, 0)))
    (hl0 : All2 (RepC w (Sr S r) r) l0 vs0) (hl : All2 (RepC w (Sr S r) r) l vs) (hw' : w' = { w with heap := w.heap.setIfInBounds b (.cells (spliceV vs0 off vs).toArray ty (0, 0)) }) :
    Rp W S r { st with m := putM st.m n (some (ty, splice l0 off l)) } a w' := by
  have hlt := lt_of_heap hw
  have hB : W.heap.size ≤ b := (h.dom n b hb).1
  have hh : ∀ c, w'.heap[c]? = if c = b then some (.cells (spliceV vs0 off vs).toArray ty (0, 0)) else w.heap[c]? := fun c => by
    subst hw'
    show (w.heap.setIfInBounds b _)[c]? = _
    rw [Array.getElem?_setIfInBounds]
    by_cases e : c = b
    · subst e; simp [hlt]
    · rw [if_neg (fun e' => e e'.symm), if_neg e]
  have x : Ext w w' (Sr S r) (Sr S r) r r := ⟨fun c y hc hy => by
    rw [hh, if_neg]; exact hy
    intro e; subst e; exact hc (.inr ⟨n, hb⟩), fun _ _ h _ => h, fun _ _ h => h⟩
  have hgm : ∀ i, ({ st with m := putM st.m n (some (ty, splice l0 off l)) } : St).gm i = if i = n then some (ty, splice l0 off l) else st.gm i := fun i => putM_get st.m n i _
  refine ⟨h.defers, ?_, h.inj, ?_, ?_, h.size, fun i => RepV.ext x (h.tmp i)⟩
  · refine h.below.trans ⟨by rw [hw'], by rw [hw'], by rw [hw'], by rw [hw']; simp, fun k hk => ?_⟩
    rw [hh, if_neg (by omega)]
  · intro i c hi
    obtain ⟨h1, ty', l', vs', h2, h3, h4⟩ := h.dom i c hi
    by_cases e : i = n
    · subst e
      rw [hb] at hi
      obtain rfl := Option.some.inj hi
      exact ⟨h1, ty, _, _, by rw [hgm, if_pos rfl], by rw [hh, if_pos rfl], (hl0.splice off hl).mono fun _ _ => RepC.ext x⟩
    · refine ⟨h1, ty', l', vs', by rw [hgm, if_neg e]; exact h2, ?_, h4.mono fun _ _ => RepC.ext x⟩
      rw [hh, if_neg]; exact h3
      intro e2; subst e2; exact e (h.inj i n _ hi hb)
  · intro i y hi
    rw [hgm] at hi
    by_cases e : i = n
    · subst e; exact ⟨b, hb⟩
    · rw [if_neg e] at hi; exact h.mem i y hi
def Nxt (W : World) (S : Nat → Prop) (r : Nat → Option Nat) (st' : St) (a' : Act) (w' : World) : Prop := ∃ r', (∀ i b, r i = some b → r' i = some b) ∧ Rp W S r' st' a' w'
theorem wp_val (h : Rp W S r st a w) {o : Oper} {v : Value} {x : PV} {Q : Exit → Act → World → Prop} (he : (execOp a.eval o).run P w = .ok (.value v) w') (hb : Below w.heap.size w w') (hv : RepV w' (Sr S r) r x v) :
    o.wp P a w (Nxt W S r (app o.dst (.v x) st)) Q := by
  unfold Oper.wp
  rw [he, Oper.upon_value]
  exact ⟨r, fun _ _ h => h, (h.grow hb).put o.dst hv⟩
theorem wp_pure (h : Rp W S r st a w) {o : Oper} {v : Value} {x : PV} {Q : Exit → Act → World → Prop} (he : (execOp a.eval o).run P w = .ok (.value v) w) (hv : RepV w (Sr S r) r x v) :
    o.wp P a w (Nxt W S r (app o.dst (.v x) st)) Q := wp_val h he (Below.refl _ _) hv
end
end Go.Proofs.YtelfmddcjlocpaaGreatDoor.Px
end
